/-
  show, parse: the parser reads a formula's pieces as the formula. Conditions: each theorem's own.
-/
import Derived.Test.YtffogjhjgmohiaaDoorShA
import Derived.Test.YtffogjhjgmohiaaDoorParM
namespace Go.Proofs.YtffogjhjgmohiaaDoor
open Go.RowKit
set_option linter.unusedVariables false
set_option linter.unusedSimpArgs false

theorem tok_of {t : Tok} {k : Nat} {s : List UInt8} (h : (t.k, t.s) = (k, s)) : t.k = k ∧ t.s = s := by injection h with h1 h2; exact ⟨h1, h2⟩
theorem isS_yes {t : Tok} {x : List UInt8} (r : List Tok) (hk : t.k = 4) (hs : t.s = x) : isS x (t :: r) = some r := by simp [isS, hk, hs]
theorem isS_sign {t : Tok} {x : List UInt8} (r : List Tok) (hk : t.k = (signP x).1) (hs : t.s = (signP x).2.1) : isS x (t :: r) = some r := isS_yes r hk hs
theorem isS_k {t : Tok} {x : List UInt8} (r : List Tok) (hk : t.k ≠ 4) : isS x (t :: r) = none := by simp [isS, hk]
theorem isS_s {t : Tok} {x : List UInt8} (r : List Tok) (hs : t.s ≠ x) : isS x (t :: r) = none := by simp [isS, hs]
/-- What may stand behind a formula that binds so much; behind an operand. -/
structure Fw (lvl : Nat) (rest : List Tok) : Prop where
  op : ∀ j, lvl ≤ j → j < 4 → opF j rest = none
  pct : isS [37] rest = none
  col : isS [58] rest = none
  par : isS [40] rest = none
def NC (rest : List Tok) : Prop := isS [58] rest = none ∧ isS [40] rest = none
theorem Fw.nc {lvl : Nat} {rest : List Tok} (h : Fw lvl rest) : NC rest := ⟨h.col, h.par⟩
theorem Fw.mono {lvl lvl' : Nat} {rest : List Tok} (h : Fw lvl rest) (hl : lvl ≤ lvl') : Fw lvl' rest := ⟨fun j hj => h.op j (by omega), h.pct, h.col, h.par⟩
theorem fw_nil (lvl : Nat) : Fw lvl [] := ⟨fun _ _ _ => rfl, rfl, rfl, rfl⟩
theorem opF_no {lvl : Nat} {t : Tok} (r : List Tok) (h : t.s ∉ lvlLit lvl) : opF lvl (t :: r) = none := by
  have : (lvlLit lvl).contains t.s = false := by simpa using h
  simp only [opF, this, Bool.and_false, Bool.false_eq_true, if_false]
theorem opF_yes {lvl : Nat} {t : Tok} (r : List Tok) (hk : t.k = 4) (h : t.s ∈ lvlLit lvl) : opF lvl (t :: r) = some (opNo t.s, r) := by
  have : (lvlLit lvl).contains t.s = true := by simpa using h
  simp only [opF, this, hk, beq_self_eq_true, Bool.and_self, if_true]
/-- ) and , stand behind any formula. -/
theorem fw_shut {t : Tok} (r : List Tok) (h : t.s = [41] ∨ t.s = [44]) : Fw 0 (t :: r) := by
  have hno : ∀ j, j < 4 → t.s ∉ lvlLit j := by
    have : ∀ j, j < 4 → [41] ∉ lvlLit j ∧ [44] ∉ lvlLit j := by decide
    intro j hj
    rcases h with h | h
    · rw [h]; exact (this j hj).1
    · rw [h]; exact (this j hj).2
  exact ⟨fun j _ hj => opF_no r (hno j hj), isS_s r (by rcases h with h | h <;> rw [h] <;> decide), isS_s r (by rcases h with h | h <;> rw [h] <;> decide), isS_s r (by rcases h with h | h <;> rw [h] <;> decide)⟩
theorem op_facts {op : Int} (h : 1 ≤ op ∧ op ≤ 11) : opL op ∈ lvlLit (lvlOf op) ∧ (∀ j, j < 4 → j ≠ lvlOf op → opL op ∉ lvlLit j) ∧ (opNo (opL op) : Int) = op ∧ opL op ≠ [37] ∧ opL op ≠ [58] ∧ opL op ≠ [40] ∧ opL op ≠ [41] := by
  have h1 : ∀ k : Nat, k < 11 → opL ((k : Int) + 1) ∈ lvlLit (lvlOf ((k : Int) + 1)) := by decide
  have h2 : ∀ k : Nat, k < 11 → ∀ j, j < 4 → j ≠ lvlOf ((k : Int) + 1) → opL ((k : Int) + 1) ∉ lvlLit j := by decide
  have h3 : ∀ k : Nat, k < 11 → (opNo (opL ((k : Int) + 1)) : Int) = (k : Int) + 1 := by decide
  have h4 : ∀ k : Nat, k < 11 → opL ((k : Int) + 1) ≠ [37] ∧ opL ((k : Int) + 1) ≠ [58] ∧ opL ((k : Int) + 1) ≠ [40] ∧ opL ((k : Int) + 1) ≠ [41] := by decide
  obtain ⟨k, rfl⟩ : ∃ k : Nat, op = (k : Int) + 1 := ⟨op.toNat - 1, by omega⟩
  exact ⟨h1 k (by omega), h2 k (by omega), h3 k (by omega), h4 k (by omega)⟩
section
variable (E sh : Nat)
/-- No answer (the fuel is too small), the formula, or: too deep. -/
def Res (r : PR) (x : Tr) (rest : List Tok) (D : Prop) : Prop := r = none ∨ r = some (.ok (x, rest)) ∨ ∃ q, r = some (.error (3, q)) ∧ D
def P5 (p : Int) (x : Tr) : Prop := ∀ (n d : Nat) (ts rest : List Tok), mt ts = tk (pcs p 5 x) → NC rest →
  primF E sh n d (ts ++ rest) = none ∨ (∃ y r0, primF E sh n d (ts ++ rest) = some (.ok (y, r0)) ∧ pctF y r0 = pctF x rest) ∨ ∃ q, primF E sh n d (ts ++ rest) = some (.error (3, q)) ∧ 64 < d + depT 5 x
def U4 (p : Int) (x : Tr) : Prop := ∀ (n d : Nat) (ts rest : List Tok), mt ts = tk (pcs p 4 x) → Fw 4 rest → Res (unaryF E sh n d (ts ++ rest)) x rest (64 < d + depT 4 x)
def PL (p : Int) (x : Tr) (lvl : Nat) : Prop := ∀ (n d : Nat) (ts rest : List Tok), mt ts = tk (pcs p lvl x) → Fw lvl rest → Res (exprF E sh n lvl d (ts ++ rest)) x rest (64 < d + depT lvl x)
def QL (p : Int) (x : Tr) (j : Nat) : Prop := ∀ (n d : Nat) (ts rest : List Tok), mt ts = tk (pcs p j x) → Fw (j + 1) rest →
  exprF E sh n j d (ts ++ rest) = none ∨ (∃ m, exprF E sh n j d (ts ++ rest) = loopF E sh m j d x rest) ∨ ∃ q, exprF E sh n j d (ts ++ rest) = some (.error (3, q)) ∧ 64 < d + depT j x
variable {E sh}
theorem pl_of_u4 {p : Int} {x : Tr} (h : U4 E sh p x) : PL E sh p x 4 := by
  intro n d ts rest hm hr
  cases n with
  | zero => exact .inl (by rw [exprF])
  | succ n =>
    rw [exprF, if_pos (by decide)]
    exact h n d ts rest hm hr
theorem ql_of_pl {p : Int} {x : Tr} {j : Nat} (hj : j < 4) (he : pcs p j x = pcs p (j + 1) x) (hd : depT j x = depT (j + 1) x) (h : PL E sh p x (j + 1)) : QL E sh p x j := by
  intro n d ts rest hm hr
  cases n with
  | zero => exact .inl (by rw [exprF])
  | succ n =>
    rw [exprF, if_neg (by simp; omega)]
    rcases h n d ts rest (by rw [hm, he]) hr with h | h | ⟨q, h, hD⟩
    · rw [h]; exact .inl rfl
    · rw [h]; exact .inr (.inl ⟨n, rfl⟩)
    · rw [h]; exact .inr (.inr ⟨q, rfl, by rw [hd]; exact hD⟩)
theorem pl_of_ql {p : Int} {x : Tr} {j : Nat} (hj : j < 4) (h : QL E sh p x j) : PL E sh p x j := by
  intro n d ts rest hm hr
  rcases h n d ts rest hm (hr.mono (Nat.le_succ _)) with h | ⟨m, h⟩ | h
  · exact .inl h
  · rw [h]
    cases m with
    | zero => exact .inl (by rw [loopF])
    | succ m => exact .inr (.inl (by rw [loopF, hr.op j (Nat.le_refl _) hj]))
  · exact .inr (.inr h)
/-- From the top down. -/
theorem pl_chain {p : Int} {x : Tr} (h4 : PL E sh p x 4) (hq : ∀ j, j < 4 → PL E sh p x (j + 1) → QL E sh p x j) : (∀ lvl, lvl ≤ 4 → PL E sh p x lvl) ∧ ∀ j, j < 4 → QL E sh p x j := by
  have h3 := pl_of_ql (by decide) (hq 3 (by decide) h4)
  have h2 := pl_of_ql (by decide) (hq 2 (by decide) h3)
  have h1 := pl_of_ql (by decide) (hq 1 (by decide) h2)
  have h0 := pl_of_ql (by decide) (hq 0 (by decide) h1)
  have hall : ∀ lvl, lvl ≤ 4 → PL E sh p x lvl := by
    intro lvl hl
    have : lvl = 0 ∨ lvl = 1 ∨ lvl = 2 ∨ lvl = 3 ∨ lvl = 4 := by omega
    rcases this with rfl | rfl | rfl | rfl | rfl
    · exact h0
    · exact h1
    · exact h2
    · exact h3
    · exact h4
  exact ⟨hall, fun j hj => hq j hj (hall (j + 1) (by omega))⟩
theorem mt_cons {ts : List Tok} {q : Pc} {l : List Pc} (h : mt ts = tk (q :: l)) : ∃ t r, ts = t :: r ∧ t.k = q.1 ∧ t.s = q.2.1 ∧ mt r = tk l := by
  cases ts with
  | nil => cases h
  | cons t r =>
    simp only [mt, tk, List.map_cons] at h
    injection h with h1 h2
    injection h1 with h3 h4
    exact ⟨t, r, rfl, h3, h4, h2⟩
theorem mt_nil {ts : List Tok} (h : mt ts = tk []) : ts = [] := by
  cases ts with
  | nil => rfl
  | cons t r => cases h
theorem mt_app {ts : List Tok} {a b : List Pc} (h : mt ts = tk (a ++ b)) : ∃ u v, ts = u ++ v ∧ mt u = tk a ∧ mt v = tk b := by
  simp only [mt, tk, List.map_append] at h
  obtain ⟨u, v, h1, h2, h3⟩ := List.map_eq_append_iff.1 h
  exact ⟨u, v, h1, h2, h3⟩
theorem u4_of_p5 {p : Int} {x : Tr} (he : pcs p 4 x = pcs p 5 x) (hd : depT 4 x = depT 5 x) (hh : ∃ q l, pcs p 5 x = q :: l ∧ ¬ (q.1 = 4 ∧ q.2.1 = [45])) (h : P5 E sh p x) : U4 E sh p x := by
  intro n d ts rest hm hr
  cases n with
  | zero => exact .inl (by rw [unaryF])
  | succ n =>
    obtain ⟨q, l, hq, hno⟩ := hh
    have hi : isS [45] (ts ++ rest) = none := by
      obtain ⟨t, r, rfl, h1, h2, -⟩ := mt_cons (hm.trans (by rw [he, hq]))
      by_cases h4 : t.k = 4
      · exact isS_s _ (fun e => hno ⟨by rw [← h1]; exact h4, by rw [← h2]; exact e⟩)
      · exact isS_k _ h4
    rw [unaryF, hi]
    simp only
    rcases h n d ts rest (by rw [hm, he]) hr.nc with h | ⟨y, r0, h, hp⟩ | ⟨q, h, hD⟩
    · rw [h]; exact .inl rfl
    · rw [h]; exact .inr (.inl (by simp only; rw [hp, pct_no x hr.pct]))
    · rw [h]; exact .inr (.inr ⟨q, rfl, by rw [hd]; exact hD⟩)
/-- Brackets. -/
theorem p5_brk {p : Int} {x : Tr} (he : pcs p 5 x = brk true (pcs p 0 x)) (hd : depT 5 x = depT 0 x + 1) (h : PL E sh p x 0) : P5 E sh p x := by
  intro n d ts rest hm hr
  cases n with
  | zero => exact .inl (by rw [primF])
  | succ n =>
    rw [he] at hm
    obtain ⟨t, r, rfl, h1, h2, h3⟩ := mt_cons hm
    obtain ⟨u, v, rfl, h4, h5⟩ := mt_app h3
    obtain ⟨t', r', rfl, h6, h7, h8⟩ := mt_cons h5
    obtain rfl := mt_nil h8
    have e1 : isS [40] (t :: (u ++ [t']) ++ rest) = some (u ++ t' :: rest) := by rw [List.cons_append, List.append_assoc]; exact isS_yes _ h1 h2
    rw [primF.eq_def]
    simp only [e1, beq_iff_eq]
    by_cases h64 : d = 64
    · rw [if_pos h64]; exact .inr (.inr ⟨_, rfl, by omega⟩)
    rw [if_neg h64]
    rcases h n (d + 1) u (t' :: rest) h4 (fw_shut _ (.inl h7)) with h | h | ⟨q, h, hD⟩
    · rw [h]; exact .inl rfl
    · rw [h]
      simp only [isS_sign rest h6 h7]
      exact .inr (.inl ⟨x, rest, rfl, rfl⟩)
    · rw [h]; exact .inr (.inr ⟨q, rfl, by omega⟩)
/-- One token alone. -/
theorem prim_simple {n d : Nat} {t : Tok} {r : List Tok} (h4 : t.k ≠ 4) (h3 : t.k ≠ 3) : primF E sh (n + 1) d (t :: r) = some (simpleP t r) := by
  rw [primF.eq_def]
  simp only [isS_k r h4]
  rw [if_neg (by simpa using h4), if_neg (by simpa using h3)]
theorem prim_word {n d : Nat} {t : Tok} {r : List Tok} (h3 : t.k = 3) : primF E sh (n + 1) d (t :: r) = wordF E sh n d t r := by
  rw [primF.eq_def]
  simp only [isS_k r (show t.k ≠ 4 by omega)]
  rw [if_neg (by simp [h3]), if_pos (by simp [h3])]
theorem p5_simple {p : Int} {x : Tr} {q : Pc} (he : pcs p 5 x = [q]) (h4 : q.1 ≠ 4) (h3 : q.1 ≠ 3) (hs : ∀ t r, t.k = q.1 → t.s = q.2.1 → simpleP t r = .ok (x, r)) : P5 E sh p x := by
  intro n d ts rest hm hr
  cases n with
  | zero => exact .inl (by rw [primF])
  | succ n =>
    rw [he] at hm
    obtain ⟨t, r, rfl, h1, h2, h5⟩ := mt_cons hm
    obtain rfl := mt_nil h5
    refine .inr (.inl ⟨x, rest, ?_, rfl⟩)
    rw [List.singleton_append, prim_simple (by rw [h1]; exact h4) (by rw [h1]; exact h3), hs t rest h1 h2]
theorem p5_word {p : Int} {x : Tr} {q : Pc} {l : List Pc} (he : pcs p 5 x = q :: l) (h3 : q.1 = 3) (hs : ∀ t ts rest, t.s = q.2.1 → mt ts = tk l → NC rest → isS [40] (ts ++ rest) = none ∧ atomP E sh t (ts ++ rest) = .ok (x, rest)) : P5 E sh p x := by
  intro n d ts rest hm hr
  cases n with
  | zero => exact .inl (by rw [primF])
  | succ n =>
    rw [he] at hm
    obtain ⟨t, r, rfl, h1, h2, h5⟩ := mt_cons hm
    rw [List.cons_append, prim_word (by rw [h1]; exact h3)]
    obtain ⟨hp, ha⟩ := hs t r rest h2 h5 hr
    cases n with
    | zero => exact .inl (by rw [wordF])
    | succ n => exact .inr (.inl ⟨x, rest, by rw [wordF, hp, ha], rfl⟩)
theorem refF_print {r : Rf} {p : Int} (h : insV r.s r.c r.r = true) (hp : r.s = p → p = (sh : Int)) : refF (refL r p) sh = some r := by
  obtain ⟨⟨h1, h2, h3⟩, h4, h5, h6⟩ := ins_nat h
  unfold refL
  split
  · rename_i hs
    rw [refF_body _ _ sh h2 h3, h5, h6, ← hp hs, ← hs]
  · rw [refF_full _ _ sh h1 h2 h3, h4, h5, h6]
theorem refF_own {r : Rf} (h : insV r.s r.c r.r = true) : refF (refL r r.s) r.s.toNat = some r := by
  obtain ⟨⟨h1, h2, h3⟩, h4, h5, h6⟩ := ins_nat h
  unfold refL
  rw [if_pos rfl, refF_body _ _ _ h2 h3, h4, h5, h6]
theorem bodyF_none {l : List UInt8} {s : Nat} (s' : Nat) (h : bodyF l s = none) : bodyF l s' = none := by
  unfold bodyF at h ⊢
  cases hd : (dolF l).2 with
  | nil => rfl
  | cons c r =>
    rw [hd] at h
    simp only at h ⊢
    split
    · rename_i hc
      rw [if_pos hc] at h
      cases hq : digF (dolF r).2 with
      | none => rfl
      | some n => rw [hq] at h; cases h
    · rfl
theorem refF_none' {l : List UInt8} {s : Nat} (s' : Nat) (h : refF l s = none) : refF l s' = none := by
  match l, h with
  | [], h => exact bodyF_none (l := []) (s := s) s' h
  | [a], h => exact bodyF_none (l := [a]) (s := s) s' h
  | [a, b], h => exact bodyF_none (l := [a, b]) (s := s) s' h
  | a :: b :: c :: r, h =>
    simp only [refF] at h ⊢
    split
    · rename_i hc
      rw [if_pos hc] at h
      split
      · rename_i hb
        rw [if_pos hb] at h
        exact h
      · rfl
    · rename_i hc
      rw [if_neg hc] at h
      exact bodyF_none _ h
theorem true_ref (n : Int) : refF (if n = 1 then [84, 82, 85, 69] else [70, 65, 76, 83, 69]) sh = none := by
  apply refF_none' (s := 0)
  split <;> decide
theorem nm_facts {l : List UInt8} (h : nameF l = true) : refF l sh = none ∧ l ≠ [84, 82, 85, 69] ∧ l ≠ [70, 65, 76, 83, 69] := by
  unfold nameF at h
  simp only [Bool.and_eq_true, bne_iff_ne, ne_eq, Bool.not_eq_true'] at h
  refine ⟨refF_none' (s := 0) sh ?_, h.1.1.1.1.1.2, h.1.1.1.1.2⟩
  have := h.2
  cases hr : refF l 0 with
  | none => rfl
  | some r => rw [hr] at this; cases this
theorem bs_empty {s : ByteArray} (h : s.size = 0) : s = ⟨#[]⟩ := by
  apply ByteArray.ext
  exact Array.eq_empty_of_size_eq_zero h
theorem errNo_lit : ∀ k, k < 7 → errNo (errLit.getD k []) = k + 1 := by decide
/-- A tree's answers at all levels. -/
def All (E sh : Nat) (p : Int) (x : Tr) : Prop := P5 E sh p x ∧ (∀ lvl, lvl ≤ 4 → PL E sh p x lvl) ∧ ∀ j, j < 4 → QL E sh p x j
theorem all_leaf {p : Int} {x : Tr} (hp : ∀ v, pcs p v x = pcs p 5 x) (hd : ∀ v, depT v x = depT 5 x) (hh : ∃ q l, pcs p 5 x = q :: l ∧ ¬ (q.1 = 4 ∧ q.2.1 = [45])) (h : P5 E sh p x) : All E sh p x :=
  ⟨h, pl_chain (pl_of_u4 (u4_of_p5 (hp 4) (hd 4) hh h)) (fun j hj h => ql_of_pl hj ((hp j).trans (hp (j + 1)).symm) ((hd j).trans (hd (j + 1)).symm) h)⟩
theorem head5 (p : Int) {t : Tr} (h : GT t) : ∃ q l, pcs p 5 t = q :: l ∧ ¬ (q.1 = 4 ∧ q.2.1 = [45]) := by
  induction h with
  | lit k n s h h0 =>
    rw [pcs_lit]
    unfold litP
    rcases vr_cases h with ⟨rfl, -⟩ | ⟨rfl, -⟩ | ⟨rfl, -⟩ | ⟨rfl, hn, -⟩ | ⟨rfl, hn, -⟩
    · rw [if_pos rfl]; exact ⟨_, _, rfl, fun e => by cases e.1⟩
    · rw [if_neg (by decide), if_neg (by decide), if_pos rfl, if_neg (by omega)]; exact ⟨_, _, rfl, fun e => by cases e.1⟩
    · rw [if_neg (by decide), if_pos rfl]; exact ⟨_, _, rfl, fun e => by cases e.1⟩
    · rw [if_neg (by decide), if_neg (by decide), if_neg (by decide), if_pos rfl]; exact ⟨_, _, rfl, fun e => by cases e.1⟩
    · rw [if_neg (by decide), if_neg (by decide), if_neg (by decide), if_neg (by decide)]; exact ⟨_, _, rfl, fun e => by cases e.1⟩
  | one r h => rw [pcs_one]; exact ⟨_, _, rfl, fun e => by cases e.1⟩
  | area a b h h' hs => rw [pcs_area]; exact ⟨_, _, rfl, fun e => by cases e.1⟩
  | word l h => rw [pcs_word]; exact ⟨_, _, rfl, fun e => by cases e.1⟩
  | neg t h ih => rw [pcs_neg]; exact ⟨_, _, rfl, fun e => by cases e.2⟩
  | pct t h ih =>
    rw [pcs_pct]
    obtain ⟨q, l, hq, hn⟩ := ih
    exact ⟨q, _, by rw [hq]; rfl, hn⟩
  | bin op t u h ht hu => rw [pcs_bin, decide_eq_true (by have := lvlOf_le op; omega)]; exact ⟨_, _, rfl, fun e => by cases e.2⟩
  | call f ts h => rw [pcs_call]; exact ⟨_, _, rfl, fun e => by cases e.1⟩
/-- Arguments, one behind the other. -/
theorem args_go {p : Int} : ∀ (l : List Tr) (ar : List Tr) (n d : Nat) (ts : List Tok) (t0 : Tok) (rest : List Tok), (∀ x ∈ l, GT x ∧ PL E sh p x 0) → t0.k = 4 → t0.s = [41] →
    mt ts = tk (if ar.isEmpty then joinP (l.map (pcs p 0)) else (l.map (pcs p 0)).flatMap (fun y => signP [44] :: y)) →
    argsF E sh n d ar (ts ++ t0 :: rest) = none ∨ argsF E sh n d ar (ts ++ t0 :: rest) = some (.ok (ar ++ l, rest)) ∨ ∃ q, argsF E sh n d ar (ts ++ t0 :: rest) = some (.error (3, q)) ∧ 64 < d + (l.map (depT 0)).foldr (fun d m => max (d + 1) m) 0
  | [], ar, n, d, ts, t0, rest, _, hk, hs, hm => by
    cases n with
    | zero => exact .inl (by rw [argsF])
    | succ n =>
      have : ts = [] := mt_nil (hm.trans (by split <;> rfl))
      subst this
      exact .inr (.inl (by rw [argsF, List.nil_append, isS_yes rest hk hs, List.append_nil]))
  | x :: l, ar, n, d, ts, t0, rest, hall, hk, hs, hm => by
    cases n with
    | zero => exact .inl (by rw [argsF])
    | succ n =>
      obtain ⟨hg, hx⟩ := hall x (by simp)
      obtain ⟨hq, hl, hqe, -, hsgn⟩ := gt_head p hg 0
      -- the first argument's tokens, behind a comma or not
      have key : ∀ u v, mt u = tk (pcs p 0 x) → mt v = tk ((l.map (pcs p 0)).flatMap (fun y => signP [44] :: y)) → ∀ tail, tail = u ++ (v ++ t0 :: rest) → ∀ b : PR, b = exprF E sh n 0 (d + 1) tail →
          (match (if d == 64 then some (.error (3, posF E tail)) else match b with
            | none => none
            | some (.error e) => some (.error e)
            | some (.ok (x, ts2)) => argsF E sh n d (ar ++ [x]) ts2 : AR) with | r => r = none ∨ r = some (.ok (ar ++ x :: l, rest)) ∨ ∃ q, r = some (.error (3, q)) ∧ 64 < d + ((x :: l).map (depT 0)).foldr (fun d m => max (d + 1) m) 0) := by
        intro u v hu hv tail ht b hb
        have hfold : ((x :: l).map (depT 0)).foldr (fun d m => max (d + 1) m) 0 = max (depT 0 x + 1) ((l.map (depT 0)).foldr (fun d m => max (d + 1) m) 0) := rfl
        by_cases h64 : d = 64
        · simp only [h64, beq_self_eq_true, if_true]
          exact .inr (.inr ⟨_, rfl, by rw [hfold]; omega⟩)
        have h64' : (d == 64) = false := by simpa using h64
        simp only [h64', Bool.false_eq_true, if_false]
        have hfw : Fw 0 (v ++ t0 :: rest) := by
          cases l with
          | nil => obtain rfl := mt_nil hv; exact fw_shut _ (.inl hs)
          | cons y l =>
            obtain ⟨t', r', rfl, -, h2, -⟩ := mt_cons hv
            exact fw_shut _ (.inr h2)
        subst ht hb
        rcases hx n (d + 1) u (v ++ t0 :: rest) hu hfw with h | h | ⟨q, h, hD⟩
        · rw [h]; exact .inl rfl
        · rw [h]
          simp only
          have := args_go l (ar ++ [x]) n d v t0 rest (fun y hy => hall y (by simp [hy])) hk hs (by rw [hv, if_neg (by simp)])
          rw [List.append_assoc] at this
          rcases this with h | h | ⟨q, h, hD⟩
          · exact .inl h
          · exact .inr (.inl h)
          · exact .inr (.inr ⟨q, h, by rw [hfold]; omega⟩)
        · rw [h]; exact .inr (.inr ⟨q, rfl, by rw [hfold]; omega⟩)
      cases ar with
      | nil =>
        simp only [List.isEmpty_nil, if_true, List.map_cons, joinP] at hm
        obtain ⟨u, v, rfl, hu, hv⟩ := mt_app hm
        have hi : isS [41] (u ++ v ++ t0 :: rest) = none := by
          obtain ⟨t', r', rfl, h1, h2, -⟩ := mt_cons (hu.trans (by rw [hqe]))
          by_cases h4 : t'.k = 4
          · refine isS_s _ (fun e => ?_)
            rcases hsgn (by rw [← h1]; exact h4) with h | h <;> rw [← h2, e] at h <;> cases h
          · exact isS_k _ h4
        rw [argsF, hi]
        simp only [List.isEmpty_nil, if_true]
        exact key u v hu hv _ (by rw [List.append_assoc]) _ rfl
      | cons a ar =>
        rw [if_neg (by simp)] at hm
        simp only [List.map_cons, List.flatMap_cons, List.cons_append] at hm
        obtain ⟨tc, r, rfl, h1, h2, h3⟩ := mt_cons hm
        obtain ⟨u, v, rfl, hu, hv⟩ := mt_app h3
        have hi : isS [41] (tc :: (u ++ v) ++ t0 :: rest) = none := by
          rw [List.cons_append]
          exact isS_s _ (by rw [h2]; decide)
        have hc : isS [44] (tc :: (u ++ v) ++ t0 :: rest) = some (u ++ (v ++ t0 :: rest)) := by
          rw [List.cons_append, List.append_assoc]
          exact isS_yes _ h1 h2
        rw [argsF, hi]
        simp only [List.isEmpty_cons, Bool.false_eq_true, if_false, hc]
        exact key u v hu hv _ rfl _ rfl
/-- **The parser reads a formula's pieces.** -/
theorem gt_all (hsh : sh < 3) {p : Int} (hp : p = (sh : Int) ∨ p < 0) {x : Tr} (h : GT x) : All E sh p x := by
  have hps : ∀ {r : Rf}, insV r.s r.c r.r = true → r.s = p → p = (sh : Int) := fun {r} hr e => by have := (ins_bd hr).1; omega
  induction h with
  | lit k n s h h0 hn hs =>
    refine all_leaf (fun v => by rw [pcs_lit, pcs_lit]) (fun v => by rw [dep_leaf, dep_leaf] <;> exact (by decide : (1 : Int) ≤ 4)) (head5 p (.lit k n s h h0 hn hs)) ?_
    have he := pcs_lit p 5 k n s
    unfold litP at he
    rcases vr_cases h with ⟨rfl, rfl, hz⟩ | ⟨rfl, -, hz⟩ | ⟨rfl, rfl, hz⟩ | ⟨rfl, hn1, hz⟩ | ⟨rfl, hn1, hz⟩
    · obtain rfl := bs_empty hz
      rw [if_pos rfl] at he
      intro m d ts rest hm hr
      cases m with
      | zero => exact .inl (by rw [primF])
      | succ m =>
        rw [he] at hm
        obtain ⟨t, r, rfl, h1, h2, h5⟩ := mt_cons hm
        obtain ⟨t', r', rfl, h1', h2', h5'⟩ := mt_cons h5
        obtain ⟨t2, r2, rfl, h12, h22, h52⟩ := mt_cons h5'
        obtain rfl := mt_nil h52
        rw [List.cons_append, prim_word h1]
        cases m with
        | zero => exact .inl (by rw [wordF])
        | succ m =>
          rw [wordF, List.cons_append, List.cons_append, List.nil_append, isS_sign _ h1' h2']
          simp only [h2]
          rw [if_neg (by decide +kernel)]
          cases m with
          | zero => exact .inl (by rw [argsF])
          | succ m =>
            rw [argsF, isS_sign _ h12 h22]
            refine .inr (.inl ⟨.mk (litS 0 0 ⟨#[]⟩) [], rest, ?_, rfl⟩)
            simp only
            rw [show numOf (wordP [66, 76, 65, 78, 75]).2.1 = 0 from (by decide +kernel)]
            rfl
    · obtain rfl := bs_empty hz
      rw [if_neg (by decide), if_neg (by decide), if_pos rfl, if_neg (by omega)] at he
      refine p5_simple he (by decide : (1 : Nat) ≠ 4) (by decide : (1 : Nat) ≠ 3) (fun t r h1 h2 => ?_)
      have h1 : t.k = 1 := h1
      have h2 : t.s = Num.txtAbs n.natAbs := h2
      have hN := Num.parse_txtAbs n.natAbs (by omega)
      unfold simpleP
      rw [if_pos (by simp [h1]), h2, hN]
      show Except.ok (litT 1 ((n.natAbs : Nat) : Int) [], r) = _
      rw [show ((n.natAbs : Nat) : Int) = n by omega]
      rfl
    · rw [if_neg (by decide), if_pos rfl] at he
      refine p5_simple he (by decide : (2 : Nat) ≠ 4) (by decide : (2 : Nat) ≠ 3) (fun t r h1 h2 => ?_)
      have h1 : t.k = 2 := h1
      have h2 : t.s = s.data.toList := h2
      unfold simpleP
      rw [if_neg (by simp [h1]), if_pos (by simp [h1]), h2, if_neg (by rw [show s.data.toList.length = s.size by simp]; omega)]
      show Except.ok (Tr.mk (litS 2 0 (mk s.data.toList)) [], r) = _
      rw [mk_self]
    · obtain rfl := bs_empty hz
      rw [if_neg (by decide), if_neg (by decide), if_neg (by decide), if_pos rfl] at he
      refine p5_word he rfl (fun t ts rest h1 h2 h3 => ?_)
      have h1 : t.s = if n = 1 then [84, 82, 85, 69] else [70, 65, 76, 83, 69] := h1
      obtain rfl := mt_nil h2
      refine ⟨h3.2, ?_⟩
      unfold atomP
      rw [h1, true_ref n]
      simp only [List.nil_append]
      rcases hn1 with rfl | rfl
      · rfl
      · rfl
    · obtain rfl := bs_empty hz
      rw [if_neg (by decide), if_neg (by decide), if_neg (by decide), if_neg (by decide)] at he
      refine p5_simple he (by decide : (5 : Nat) ≠ 4) (by decide : (5 : Nat) ≠ 3) (fun t r h1 h2 => ?_)
      have h1 : t.k = 5 := h1
      have h2 : t.s = errLit.getD (n.toNat - 1) [] := h2
      unfold simpleP
      rw [if_neg (by simp [h1]), if_neg (by simp [h1]), h2, errNo_lit _ (by omega)]
      show Except.ok (litT 4 ((n.toNat - 1 + 1 : Nat) : Int) [], r) = _
      rw [show ((n.toNat - 1 + 1 : Nat) : Int) = n by omega]
      rfl
  | one r h =>
    refine all_leaf (fun v => by rw [pcs_one, pcs_one]) (fun v => by rw [dep_leaf, dep_leaf] <;> exact (by decide : (2 : Int) ≤ 4)) (head5 p (.one r h)) (p5_word (pcs_one p 5 r) rfl (fun t ts rest h1 h2 h3 => ?_))
    have h1 : t.s = refL r p := h1
    obtain rfl := mt_nil h2
    refine ⟨h3.2, ?_⟩
    unfold atomP
    rw [h1, refF_print h (hps h)]
    simp only [areaP, List.nil_append, h3.1]
  | area a b h h' hs =>
    refine all_leaf (fun v => by rw [pcs_area, pcs_area]) (fun v => by rw [dep_leaf, dep_leaf] <;> exact (by decide : (3 : Int) ≤ 4)) (head5 p (.area a b h h' hs)) (p5_word (pcs_area p 5 a b) rfl (fun t ts rest h1 h2 h3 => ?_))
    have h1 : t.s = refL a p := h1
    obtain ⟨t1, r1, rfl, k1, s1, hr1⟩ := mt_cons h2
    obtain ⟨t2, r2, rfl, k2, s2, hr2⟩ := mt_cons hr1
    obtain rfl := mt_nil hr2
    have s2 : t2.s = refL b b.s := s2
    have k2 : t2.k = 3 := k2
    refine ⟨isS_s _ (by rw [s1]; decide), ?_⟩
    unfold atomP
    rw [h1, refF_print h (hps h)]
    simp only [areaP, List.cons_append, List.nil_append, isS_sign _ k1 s1]
    rw [if_neg (by simp [k2]), s2, hs, refF_own h']
    simp
  | word l h =>
    refine all_leaf (fun v => by rw [pcs_word, pcs_word]) (fun v => by rw [wordT, dep_leaf, dep_leaf] <;> exact (by decide : (4 : Int) ≤ 4)) (head5 p (.word l h)) (p5_word (pcs_word p 5 l) rfl (fun t ts rest h1 h2 h3 => ?_))
    have h1 : t.s = l := h1
    obtain rfl := mt_nil h2
    obtain ⟨f1, f2, f3⟩ := nm_facts (sh := sh) h
    refine ⟨h3.2, ?_⟩
    unfold atomP
    rw [h1, f1]
    simp only
    rw [if_neg (by simp [f2, f3]), if_neg (by simp [h])]
    rfl
  | neg t h ih =>
    obtain ⟨i5, il, iq⟩ := ih
    have hU : U4 E sh p (.mk (parS 5 0) [t]) := by
      intro n d ts rest hm hr
      rw [pcs_neg, dep_neg] at *
      rw [decide_eq_false (by omega)] at hm
      obtain ⟨t1, r1, rfl, k1, s1, hr1⟩ := mt_cons hm
      rw [if_neg (by omega)]
      cases n with
      | zero => exact .inl (by rw [unaryF])
      | succ n =>
        rw [unaryF, List.cons_append, isS_sign _ k1 s1]
        simp only [beq_iff_eq]
        by_cases h64 : d = 64
        · rw [if_pos h64]; exact .inr (.inr ⟨_, rfl, by omega⟩)
        rw [if_neg h64]
        have := il 4 (Nat.le_refl _) (n + 1) (d + 1) r1 rest hr1 hr
        rw [exprF, if_pos (by decide)] at this
        rcases this with h | h | ⟨q, h, hD⟩
        · rw [h]; exact .inl rfl
        · rw [h]; exact .inr (.inl rfl)
        · rw [h]; exact .inr (.inr ⟨q, rfl, by omega⟩)
    have hc := pl_chain (pl_of_u4 hU) (fun j hj h => ql_of_pl hj (by rw [pcs_neg, pcs_neg, decide_eq_false (by omega), decide_eq_false (by omega)]) (by rw [dep_neg, dep_neg, if_neg (by omega), if_neg (by omega)]) h)
    exact ⟨p5_brk (by rw [pcs_neg, pcs_neg]; rfl) (by rw [dep_neg, dep_neg]; rfl) (hc.1 0 (by omega)), hc⟩
  | pct t h ih =>
    obtain ⟨i5, -, -⟩ := ih
    refine all_leaf (fun v => by rw [pcs_pct, pcs_pct]) (fun v => by rw [dep_pct, dep_pct]) (head5 p (.pct t h)) ?_
    intro n d ts rest hm hr
    rw [pcs_pct] at hm
    obtain ⟨u, v, rfl, h1, h2⟩ := mt_app hm
    obtain ⟨t1, r1, rfl, k1, s1, hr1⟩ := mt_cons h2
    obtain rfl := mt_nil hr1
    rw [List.append_assoc, List.singleton_append, dep_pct]
    have hnc : NC (t1 :: rest) := ⟨isS_s _ (by rw [s1]; decide), isS_s _ (by rw [s1]; decide)⟩
    rcases i5 n d u (t1 :: rest) h1 hnc with h | ⟨y, r0, h, hp⟩ | h
    · exact .inl h
    · exact .inr (.inl ⟨y, r0, h, hp.trans (pct_yes t (isS_yes rest k1 s1))⟩)
    · exact .inr (.inr h)
  | bin op t u h ht hu iht ihu =>
    obtain ⟨-, tl, tq⟩ := iht
    obtain ⟨-, ul, uq⟩ := ihu
    obtain ⟨o1, o2, o3, o4, o5, o6, -⟩ := op_facts h
    have hlv := lvlOf_le op
    have hQ : QL E sh p (.mk (parS 7 op) [t, u]) (lvlOf op) := by
      intro n d ts rest hm hr
      rw [pcs_bin, decide_eq_false (by omega)] at hm
      rw [dep_bin, if_neg (by omega)]
      obtain ⟨a, b, rfl, h1, h2⟩ := mt_app hm
      obtain ⟨t1, r1, rfl, k1, s1, hr1⟩ := mt_cons h2
      have s1 : t1.s = opL op := s1
      rw [List.append_assoc, List.cons_append]
      have hfw : Fw (lvlOf op + 1) (t1 :: (r1 ++ rest)) := ⟨fun j hj h4 => opF_no _ (by rw [s1]; exact o2 j h4 (by omega)), isS_s _ (by rw [s1]; exact o4), isS_s _ (by rw [s1]; exact o5), isS_s _ (by rw [s1]; exact o6)⟩
      rcases tq (lvlOf op) (by omega) n d a (t1 :: (r1 ++ rest)) h1 hfw with h | ⟨m, h⟩ | ⟨q, h, hD⟩
      · exact .inl h
      · rw [h]
        cases m with
        | zero => exact .inl (by rw [loopF])
        | succ m =>
          rw [loopF, opF_yes _ k1 (by rw [s1]; exact o1)]
          simp only
          rcases ul (lvlOf op + 1) (by omega) m d r1 rest hr1 hr with h | h | ⟨q, h, hD⟩
          · rw [h]; exact .inl rfl
          · rw [h]; exact .inr (.inl ⟨m, by simp only; rw [s1, o3]⟩)
          · rw [h]; exact .inr (.inr ⟨q, rfl, by omega⟩)
      · exact .inr (.inr ⟨q, h, by omega⟩)
    have hlow : ∀ j, j ≤ lvlOf op → pcs p j (.mk (parS 7 op) [t, u]) = pcs p 0 (.mk (parS 7 op) [t, u]) ∧ depT j (.mk (parS 7 op) [t, u]) = depT 0 (.mk (parS 7 op) [t, u]) := fun j hj => by
      rw [pcs_bin, pcs_bin, dep_bin, dep_bin, decide_eq_false (by omega), decide_eq_false (by omega), if_neg (by omega), if_neg (by omega)]
      exact ⟨rfl, rfl⟩
    have hhigh : ∀ j, lvlOf op < j → pcs p j (.mk (parS 7 op) [t, u]) = pcs p 5 (.mk (parS 7 op) [t, u]) ∧ depT j (.mk (parS 7 op) [t, u]) = depT 5 (.mk (parS 7 op) [t, u]) := fun j hj => by
      rw [pcs_bin, pcs_bin, dep_bin, dep_bin, decide_eq_true (by omega), decide_eq_true (by omega), if_pos (by omega), if_pos (by omega)]
      exact ⟨rfl, rfl⟩
    -- from the operator's own level down
    have hP := pl_of_ql (by omega) hQ
    have hdown : ∀ k j, j + k = lvlOf op → PL E sh p (.mk (parS 7 op) [t, u]) j := by
      intro k
      induction k with
      | zero => intro j hj; rw [show j = lvlOf op by omega]; exact hP
      | succ k ih =>
        intro j hj
        exact pl_of_ql (by omega) (ql_of_pl (by omega) ((hlow j (by omega)).1.trans (hlow (j + 1) (by omega)).1.symm) ((hlow j (by omega)).2.trans (hlow (j + 1) (by omega)).2.symm) (ih (j + 1) (by omega)))
    have h5 : P5 E sh p (.mk (parS 7 op) [t, u]) := p5_brk (by rw [pcs_bin, pcs_bin, decide_eq_true (by omega), decide_eq_false (by omega)]; rfl) (by rw [dep_bin, dep_bin, if_pos (by omega), if_neg (by omega)]) (hdown (lvlOf op) 0 (by omega))
    refine ⟨h5, pl_chain (pl_of_u4 (u4_of_p5 (hhigh 4 (by omega)).1 (hhigh 4 (by omega)).2 (head5 p (.bin op t u h ht hu)) h5)) (fun j hj hn => ?_)⟩
    by_cases he : j = lvlOf op
    · rw [he]; exact hQ
    by_cases hlt : j < lvlOf op
    · exact ql_of_pl hj ((hlow j (by omega)).1.trans (hlow (j + 1) (by omega)).1.symm) ((hlow j (by omega)).2.trans (hlow (j + 1) (by omega)).2.symm) hn
    · exact ql_of_pl hj ((hhigh j (by omega)).1.trans (hhigh (j + 1) (by omega)).1.symm) ((hhigh j (by omega)).2.trans (hhigh (j + 1) (by omega)).2.symm) hn
  | call f ts h ht ih =>
    refine all_leaf (fun v => by rw [pcs_call, pcs_call]) (fun v => by rw [dep_call, dep_call]) (head5 p (.call f ts h ht)) ?_
    obtain ⟨hf1, hf2⟩ := fits_range h
    intro n d tl rest hm hr
    rw [pcs_call] at hm
    rw [dep_call]
    obtain ⟨t1, r1, rfl, k1, s1, hr1⟩ := mt_cons hm
    obtain ⟨t2, r2, rfl, k2, s2, hr2⟩ := mt_cons hr1
    obtain ⟨a, b, rfl, ha, hb⟩ := mt_app hr2
    obtain ⟨t3, r3, rfl, k3, s3, hr3⟩ := mt_cons hb
    obtain rfl := mt_nil hr3
    have s1 : t1.s = nameOf f := s1
    cases n with
    | zero => exact .inl (by rw [primF])
    | succ n =>
      rw [List.cons_append, List.cons_append, List.append_assoc, List.singleton_append, prim_word k1]
      cases n with
      | zero => exact .inl (by rw [wordF])
      | succ n =>
        have hnum : (numOf t1.s : Int) = f := by
          rw [s1]
          unfold nameOf
          rw [if_pos ⟨hf1, hf2⟩, numOf_names _ (by omega)]
          omega
        have hnz : (numOf t1.s == 0) = false := by simp; omega
        rw [wordF, isS_sign _ k2 s2]
        simp only
        rw [if_neg (by simp [hnz])]
        rcases args_go ts [] n d a t3 rest (fun x hx => ⟨ht x hx, (ih x hx).2.1 0 (by omega)⟩) k3 s3 ha with h1 | h1 | ⟨q, h1, hD⟩
        · rw [h1]; exact .inl rfl
        · rw [h1]
          refine .inr (.inl ⟨.mk (parS 8 f) ts, rest, ?_, rfl⟩)
          simp only [List.nil_append, endP, hnum]
          rw [if_neg (by simp; intro e; omega), if_neg (by simp [h])]
        · rw [h1]; exact .inr (.inr ⟨q, rfl, hD⟩)
/-- **A formula's text is read again as the formula.** -/
theorem read_back (hsh : sh < 3) {p : Int} (hp : p = (sh : Int) ∨ p < 0) {x : Tr} (h : GT x) :
    parseF (shT p 0 x) sh = some (.ok x) ∨ (200 < (shT p 0 x).length ∧ parseF (shT p 0 x) sh = some (.error (4, 0))) ∨ (64 < depT 0 x ∧ ∃ q, parseF (shT p 0 x) sh = some (.error (3, q))) := by
  obtain ⟨ts, hl, hm⟩ := lex_src (pcs p 0 x) ((shT p 0 x).length + 1) 0 (gt_lx p h 0 [] (fun c l e => by cases e)) (Nat.lt_succ_self _)
  have hlex : lexAll (shT p 0 x) = .ok ts := hl
  unfold parseF
  by_cases hlen : 200 < (shT p 0 x).length
  · rw [if_pos hlen]; exact .inr (.inl ⟨hlen, rfl⟩)
  rw [if_neg hlen, hlex]
  simp only
  have hends := (ends (shT p 0 x).length sh (12 * ts.length + 12)).expr 0 0 ts (by omega) (by omega)
  have := (gt_all (E := (shT p 0 x).length) hsh hp h).2.1 0 (by omega) (12 * ts.length + 12) 0 ts [] hm (fw_nil 0)
  rw [List.append_nil] at this
  rcases this with h1 | h1 | ⟨q, h1, hD⟩
  · exact absurd h1 hends
  · rw [h1]; exact .inl rfl
  · rw [h1]; exact .inr (.inr ⟨by omega, q, rfl⟩)
end
end Go.Proofs.YtffogjhjgmohiaaDoor
