/-
  show, parse: brackets and lengths of what is read and told: plain words. Conditions: each theorem's own.
-/
import Derived.Test.YtbnebiobahajjaaGreatDoorShC
namespace Go.Proofs.YtbnebiobahajjaaGreatDoor
open Go.RowKit
set_option linter.unusedVariables false
set_option linter.unusedSimpArgs false

/-- How many brackets a token has, how many bytes. -/
def wB (k : Nat) (s : List UInt8) : Nat := if k = 4 then (if s = [40] then 1 else 0) else if k = 2 then s.count 40 else 0
def wL (k : Nat) (s : List UInt8) : Nat := if k = 2 then (escL s).length + 2 else s.length
theorem textN_spec : ∀ (l : List UInt8) (q : Bool) (o : List UInt8) (i : Nat), 0 < i → (textN l q o i).2 ≠ 0 → ∃ t, (textN l q o i).1 = o ++ t ∧
    (q = false → ∃ r, l = escL t ++ 34 :: r ∧ (textN l q o i).2 = i + (escL t).length + 1) ∧ (q = true → ∃ r, 34 :: l = escL t ++ 34 :: r ∧ (textN l q o i).2 = i + (escL t).length)
  | [], false, o, i, hi, h => by simp [textN] at h
  | [], true, o, i, hi, h => ⟨[], by simp [textN], fun e => (by cases e), fun _ => ⟨[], by simp [escL], by simp [textN, escL]⟩⟩
  | c :: l, false, o, i, hi, h => by
    by_cases hc : c.toNat = 34
    · have hc' : c = 34 := UInt8.toNat.inj hc
      subst hc'
      have e : textN (34 :: l) false o i = textN l true o (i + 1) := by simp [textN]
      rw [e] at h ⊢
      obtain ⟨t, h1, -, h2⟩ := textN_spec l true o (i + 1) (by omega) h
      obtain ⟨r, h3, h4⟩ := h2 rfl
      exact ⟨t, h1, fun _ => ⟨r, h3, by rw [h4]; omega⟩, fun e => (by cases e)⟩
    · have e : textN (c :: l) false o i = textN l false (o ++ [c]) (i + 1) := by simp [textN, hc]
      rw [e] at h ⊢
      obtain ⟨t, h1, h2, -⟩ := textN_spec l false (o ++ [c]) (i + 1) (by omega) h
      obtain ⟨r, h3, h4⟩ := h2 rfl
      refine ⟨c :: t, by rw [h1]; simp, fun _ => ⟨r, ?_, ?_⟩, fun e => (by cases e)⟩
      · simp [escL, hc, h3]
      · rw [h4]; simp [escL, hc]; omega
  | c :: l, true, o, i, hi, h => by
    by_cases hc : c.toNat = 34
    · have hc' : c = 34 := UInt8.toNat.inj hc
      subst hc'
      have e : textN (34 :: l) true o i = textN l false (o ++ [34]) (i + 1) := by simp [textN]
      rw [e] at h ⊢
      obtain ⟨t, h1, h2, -⟩ := textN_spec l false (o ++ [34]) (i + 1) (by omega) h
      obtain ⟨r, h3, h4⟩ := h2 rfl
      refine ⟨34 :: t, by rw [h1]; simp, fun e => (by cases e), fun _ => ⟨r, ?_, ?_⟩⟩
      · simp [escL, h3]
      · rw [h4]; simp [escL]; omega
    · have e : textN (c :: l) true o i = (o, i) := by simp [textN, hc]
      rw [e]
      exact ⟨[], by simp, fun e => (by cases e), fun _ => ⟨c :: l, by simp [escL], by simp [escL]⟩⟩
theorem run_take (P : UInt8 → Bool) : ∀ l : List UInt8, (∀ c ∈ l.take (runN P l), P c = true) ∧ runN P l ≤ l.length
  | [] => ⟨fun c hc => (by cases hc), Nat.le_refl _⟩
  | c :: l => by
    rw [runN]
    split
    · rename_i hc
      obtain ⟨h1, h2⟩ := run_take P l
      refine ⟨fun d hd => ?_, by simpa using h2⟩
      rw [List.take_succ_cons] at hd
      rcases List.mem_cons.1 hd with rfl | hd
      · exact hc
      · exact h1 d hd
    · exact ⟨fun d hd => (by cases hd), Nat.zero_le _⟩
theorem count_none {l : List UInt8} (h : ∀ c ∈ l, c.toNat ≠ 40) : l.count 40 = 0 := List.count_eq_zero.2 fun hm => h 40 hm rfl
theorem count_esc : ∀ s : List UInt8, (escL s).count 40 = s.count 40
  | [] => rfl
  | c :: s => by
    by_cases hc : c.toNat = 34
    · have : c = 34 := UInt8.toNat.inj hc
      subst this
      simp [escL, count_esc s]
    · simp only [escL, beq_iff_eq, hc, if_false, List.count_cons, count_esc s]
theorem prefix_take {x s : List UInt8} (h : x.isPrefixOf s = true) : s.take x.length = x := by
  obtain ⟨r, rfl⟩ := List.isPrefixOf_iff_prefix.1 h
  simp
/-- A token's brackets and bytes are those of what stood there. -/
theorem oneT_size {s : List UInt8} {k : Nat} {t : List UInt8} {m : Nat} (h : oneT s = some (k, t, m)) : (s.take m).count 40 = wB k t ∧ (s.take m).length = wL k t := by
  have hm := (oneT_facts h).2.1
  unfold oneT at h
  cases s with
  | nil => cases h
  | cons c l =>
    simp only at h
    split at h
    · injection h with h; injection h with h1 h; injection h with h2 h3
      obtain ⟨hr, hle⟩ := run_take isNum (c :: l)
      rw [← h1, ← h2, ← h3]
      refine ⟨?_, by rw [wL, if_neg (by decide)]⟩
      rw [wB, if_neg (by decide), if_neg (by decide)]
      exact count_none fun d hd e => by have := hr d hd; simp [isNum, e] at this
    split at h
    · rename_i hc
      have hc' : c = 34 := UInt8.toNat.inj (by simpa using hc)
      subst hc'
      split at h
      · cases h
      · rename_i hz
        injection h with h; injection h with h1 h; injection h with h2 h3
        obtain ⟨t', e1, e2, -⟩ := textN_spec l false [] 1 (by omega) (by simpa using hz)
        obtain ⟨r, e3, e4⟩ := e2 rfl
        rw [List.nil_append] at e1
        rw [e1] at h2
        subst h2
        rw [← h1, ← h3, e4, e3]
        have : List.take (1 + (escL t').length + 1) (34 :: (escL t' ++ 34 :: r)) = 34 :: (escL t' ++ [34]) := by
          rw [show 1 + (escL t').length + 1 = ((escL t').length + 1) + 1 by omega, List.take_succ_cons, List.take_append, List.take_of_length_le (by omega)]
          simp
        rw [this]
        refine ⟨?_, by rw [wL, if_pos rfl]; simp⟩
        rw [wB, if_neg (by decide), if_pos rfl]
        simp [count_esc]
    split at h
    · cases hf : errLit.find? (fun x => x.isPrefixOf (c :: l)) with
      | none => rw [hf] at h; cases h
      | some x =>
        rw [hf] at h
        simp only [Option.map_some] at h
        injection h with h; injection h with h1 h; injection h with h2 h3
        obtain ⟨hx, hp⟩ := find_mem' hf
        rw [← h1, ← h2, ← h3, prefix_take hp]
        refine ⟨?_, by rw [wL, if_neg (by decide)]⟩
        have hall : ∀ x ∈ errLit, x.count 40 = wB 5 x := by decide
        exact hall x hx
    split at h
    · injection h with h; injection h with h1 h; injection h with h2 h3
      obtain ⟨hr, hle⟩ := run_take isWrd (c :: l)
      rw [← h1, ← h2, ← h3]
      refine ⟨?_, by rw [wL, if_neg (by decide)]⟩
      rw [wB, if_neg (by decide), if_neg (by decide)]
      exact count_none fun d hd e => by have := hr d hd; simp [isWrd, e] at this
    · cases hf : signLit.find? (fun x => x.isPrefixOf (c :: l)) with
      | none => rw [hf] at h; cases h
      | some x =>
        rw [hf] at h
        simp only [Option.map_some] at h
        injection h with h; injection h with h1 h; injection h with h2 h3
        obtain ⟨hx, hp⟩ := find_mem' hf
        rw [← h1, ← h2, ← h3, prefix_take hp]
        refine ⟨?_, by rw [wL, if_neg (by decide)]⟩
        have hall : ∀ x ∈ signLit, x.count 40 = wB 4 x := by decide
        exact hall x hx
def tB (t : Tok) : Nat := wB t.k t.s
def tL (t : Tok) : Nat := 2 * wL t.k t.s
def pB (q : Pc) : Nat := wB q.1 q.2.1
def pL (q : Pc) : Nat := wL q.1 q.2.1
theorem lex_sums : ∀ (n : Nat) (s : List UInt8) (i : Nat) (ts : List Tok), lexF n s i = .ok ts → wS tB ts ≤ s.count 40 ∧ wS tL ts ≤ 2 * s.length
  | 0, s, i, ts, h => by rw [lexF] at h; injection h with h; rw [← h]; exact ⟨Nat.zero_le _, Nat.zero_le _⟩
  | n + 1, [], i, ts, h => by rw [lexF] at h; injection h with h; rw [← h]; exact ⟨Nat.zero_le _, Nat.zero_le _⟩
  | n + 1, c :: l, i, ts, h => by
    rw [lexF] at h
    split at h
    · obtain ⟨h1, h2⟩ := lex_sums n l (i + 1) ts h
      refine ⟨Nat.le_trans h1 ?_, by simp only [List.length_cons]; omega⟩
      rw [List.count_cons]; omega
    · cases ho : oneT (c :: l) with
      | none => rw [ho] at h; cases h
      | some q =>
        obtain ⟨k, t, m⟩ := q
        rw [ho] at h
        simp only at h
        obtain ⟨s1, s2⟩ := oneT_size ho
        cases hx : lexF n ((c :: l).drop m) (i + m) with
        | error e => rw [hx] at h; cases h
        | ok r =>
          rw [hx] at h
          injection h with h
          rw [← h]
          obtain ⟨h1, h2⟩ := lex_sums n _ (i + m) r hx
          have e1 : (c :: l).count 40 = ((c :: l).take m).count 40 + ((c :: l).drop m).count 40 := by rw [← List.count_append, List.take_append_drop]
          have e2 : (c :: l).length = ((c :: l).take m).length + ((c :: l).drop m).length := by rw [← List.length_append, List.take_append_drop]
          rw [wS_cons, wS_cons, e1, e2, s1, s2]
          simp only [tB, tL] at h1 h2 ⊢
          omega
theorem lx_sums : ∀ (l : List Pc) (r : List UInt8), Lx l r → (src l).count 40 = vS pB l ∧ (src l).length = vS pL l
  | [], r, _ => ⟨rfl, rfl⟩
  | q :: l, r, ⟨⟨_, h1⟩, h2⟩ => by
    obtain ⟨s1, s2⟩ := oneT_size h1
    rw [List.take_append_of_le_length (Nat.le_refl _), List.take_length] at s1 s2
    obtain ⟨h3, h4⟩ := lx_sums l r h2
    rw [src_cons, List.count_append, List.length_append, vS_cons, vS_cons, h3, h4, s1, s2]
    exact ⟨rfl, rfl⟩
theorem wt_B : Wt pB tB where
  sign := fun t h => by simp [pB, tB, signP, h]
  num := fun t n h _ => by simp [pB, numP, wB]
  text := fun t h => by simp [pB, tB, textP, h]
  word := fun t h => by simp [pB, wordP, wB]
  ref := fun t s a _ h _ => by simp [pB, wordP, wB]
  err := fun t h _ => by simp [pB, errP, wB]
/-- A number's text is at most twice as long as what it was read from. -/
theorem pv_bound : ∀ (l : List UInt8) (n : Nat) (p : Int) (d : Nat) (N : Nat) (P : Int) (D : Nat), -1 ≤ p → p ≤ 6 → p ≤ d → n < 10 ^ d → Num.pv l n p d = some (N, P, D) →
    N < 10 ^ D ∧ -1 ≤ P ∧ P ≤ 6 ∧ P ≤ D ∧ D + (if 0 ≤ P then 1 else 0) = d + (if 0 ≤ p then 1 else 0) + l.length
  | [], n, p, d, N, P, D, h1, h2, h3, h4, h => by
    simp only [Num.pv] at h
    injection h with h; injection h with e1 h; injection h with e2 e3
    subst e1 e2 e3
    exact ⟨h4, h1, h2, h3, by simp⟩
  | c :: l, n, p, d, N, P, D, h1, h2, h3, h4, h => by
    simp only [Num.pv] at h
    split at h
    · rename_i hc
      obtain ⟨r1, r2, r3, r4, r5⟩ := pv_bound l n 0 d N P D (by omega) (by omega) (by omega) h4 h
      refine ⟨r1, r2, r3, r4, ?_⟩
      rw [r5, if_pos (by omega), if_neg (by omega)]
      simp only [List.length_cons]; omega
    · split at h
      · cases h
      · rename_i hc
        have hc57 : c.toNat - 48 < 10 := by omega
        have hpow : n * 10 + (c.toNat - 48) < 10 ^ (d + 1) := by rw [Nat.pow_succ]; omega
        obtain ⟨r1, r2, r3, r4, r5⟩ := pv_bound l (n * 10 + (c.toNat - 48)) (if 0 ≤ p then p + 1 else p) (d + 1) N P D (by split <;> omega) (by split <;> omega) (by split <;> omega) hpow h
        refine ⟨r1, r2, r3, r4, ?_⟩
        rw [r5]
        simp only [List.length_cons]
        by_cases hp : 0 ≤ p
        · simp only [if_pos hp]
          rw [if_pos (by omega)]
          omega
        · simp only [if_neg hp]
          omega
theorem frs_short (n : Nat) : ∀ j k, Num.frs n j = [] → (Num.frs n (j + k)).length ≤ k
  | j, 0, h => by rw [Nat.add_zero, h]; exact Nat.le_refl _
  | j, k + 1, h => by
    have ih := frs_short n j k h
    rw [show j + (k + 1) = (j + k) + 1 by omega, Num.frs]
    split
    · exact Nat.zero_le _
    · simp only [List.length_cons]; omega
theorem num_short {l : List UInt8} {n : Nat} (h : Num.parse l = some n) : (Num.txtAbs n).length ≤ 2 * l.length := by
  unfold Num.parse at h
  cases hp : Num.pv l 0 (-1) 0 with
  | none => rw [hp] at h; cases h
  | some x =>
    obtain ⟨N, P, D⟩ := x
    obtain ⟨r1, r2, r3, r4, r5⟩ := pv_bound l 0 (-1) 0 N P D (by omega) (by omega) (by omega) (by simp) hp
    rw [hp] at h
    simp only [Num.pend] at h
    split at h
    · cases h
    · rename_i hno
      injection h with h
      obtain ⟨q, hq⟩ : ∃ q : Nat, (max P 0).toNat = q := ⟨_, rfl⟩
      rw [hq] at h
      have hq6 : q ≤ 6 := by omega
      have hqD : q ≤ D := by omega
      have hwhole : (Num.whole n).length ≤ max 1 (D - q) := by
        unfold Num.whole
        split
        · simp; omega
        · have hdiv : n / 1000000 < 10 ^ (D - q) := by
            rw [← h, show (1000000 : Nat) = 10 ^ q * 10 ^ (6 - q) by rw [← Nat.pow_add, show q + (6 - q) = 6 by omega]]
            rw [Nat.mul_div_mul_right _ _ (Nat.pow_pos (by omega))]
            refine Nat.div_lt_of_lt_mul ?_
            rw [← Nat.pow_add, show q + (D - q) = D by omega]
            exact r1
          have := Num.len_dig (n / 1000000) (n / 1000000) (D - q) (Nat.le_refl _) hdiv
          omega
      have hfrac : (Num.frac n).length ≤ if q = 0 then 0 else q + 1 := by
        have hz : Num.frs n (6 - q) = [] := by
          rw [Num.frs_nil, ← h]
          exact Nat.mul_mod_left _ _
        have hs := frs_short n (6 - q) q hz
        rw [show 6 - q + q = 6 by omega] at hs
        unfold Num.frac
        split
        · exact Nat.zero_le _
        · rename_i hne
          by_cases h0 : q = 0
          · subst h0
            exact absurd (List.eq_nil_of_length_eq_zero (by omega)) hne
          · rw [if_neg h0]; simp only [List.length_cons]; omega
      have hD : D ≠ 0 := by omega
      have hlen : D + (if 0 ≤ P then 1 else 0) = l.length := by rw [r5]; simp
      unfold Num.txtAbs
      rw [List.length_append]
      by_cases h0 : q = 0
      · rw [if_pos h0] at hfrac
        split at hlen <;> omega
      · rw [if_neg h0] at hfrac
        rw [if_pos (by omega)] at hlen
        omega
theorem wt_L : Wt pL tL where
  sign := fun t h => by simp only [pL, tL, signP, h]; omega
  num := fun t n h hn => by
    have := num_short hn
    show wL 1 (Num.txtAbs n) ≤ 2 * wL t.k t.s
    rw [h]
    exact this
  text := fun t h => by simp only [pL, tL, textP, h]; omega
  word := fun t h => by simp only [pL, tL, wordP, h]; omega
  ref := fun t s a hs h hr => by
    obtain ⟨s', c, q, x, y, ⟨h1, h2, h3⟩, rfl, hl⟩ := refF_of hs hr
    have key : (refL ⟨(s' : Int), (c : Int), (q : Int), x, y⟩ (s : Int)).length ≤ t.s.length := by
      unfold refL
      simp only [Int.toNat_natCast]
      rcases hl with hl | ⟨he, hl⟩
      · rw [hl]
        split
        · simp [fullL]; omega
        · exact Nat.le_refl _
      · rw [hl, if_pos (by rw [he])]
        exact Nat.le_refl _
    show wL 3 (refL ⟨(s' : Int), (c : Int), (q : Int), x, y⟩ (s : Int)) ≤ 2 * wL t.k t.s
    rw [h]
    show (refL ⟨(s' : Int), (c : Int), (q : Int), x, y⟩ (s : Int)).length ≤ 2 * t.s.length
    omega
  err := fun t h hm => by
    have hall : ∀ s ∈ errLit, (errLit.getD (errNo s - 1) []).length ≤ s.length := by decide
    have := hall t.s hm
    show wL 5 (errLit.getD (errNo t.s - 1) []) ≤ 2 * wL t.k t.s
    rw [h]
    show (errLit.getD (errNo t.s - 1) []).length ≤ 2 * t.s.length
    omega
/-- **What is read and told: read again it is the same, with no more brackets.** -/
theorem told_again {s : List UInt8} {x : Tr} (h : parseF s 0 = some (.ok x)) (hs : s.length ≤ 100) : GT x ∧ parseF (shT 0 0 x) 0 = some (.ok x) ∧ (shT 0 0 x).count 40 ≤ s.count 40 ∧ (shT 0 0 x).length ≤ 200 := by
  obtain ⟨hg, -, hd, -, ts, hts, hb⟩ := parse_out pB tB wt_B (by omega) h
  obtain ⟨-, -, -, -, ts', hts', hl⟩ := parse_out pL tL wt_L (by omega) h
  obtain rfl : ts = ts' := by rw [hts] at hts'; injection hts'
  obtain ⟨l1, l2⟩ := lex_sums _ _ _ _ hts
  obtain ⟨x1, x2⟩ := lx_sums (pcs 0 0 x) [] (gt_lx 0 hg 0 [] (fun c l e => (by cases e)))
  have hb' : vS pB (pcs 0 0 x) ≤ wS tB ts := hb
  have hl' : vS pL (pcs 0 0 x) ≤ wS tL ts := hl
  have hlen : (shT 0 0 x).length ≤ 200 := by unfold shT; rw [x2]; omega
  refine ⟨hg, ?_, by unfold shT; rw [x1]; omega, hlen⟩
  rcases read_back (sh := 0) (by omega) (.inl rfl) hg with h1 | ⟨h1, -⟩ | ⟨h1, -⟩
  · exact h1
  · exact absurd h1 (by have : (shT ((0 : Nat) : Int) 0 x).length ≤ 200 := hlen; omega)
  · omega
end Go.Proofs.YtbnebiobahajjaaGreatDoor
