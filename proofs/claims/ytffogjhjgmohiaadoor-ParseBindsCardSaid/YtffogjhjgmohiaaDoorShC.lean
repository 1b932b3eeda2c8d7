/-
  parse: what the parser hands back, or where it gives up: plain words. Conditions: each theorem's own.
-/
import Derived.Test.YtffogjhjgmohiaaDoorShB
namespace Go.Proofs.YtffogjhjgmohiaaDoor
open Go.RowKit
set_option linter.unusedVariables false
set_option linter.unusedSimpArgs false

mutual
/-- How deep a tree is. -/
def dpt : Tr → Nat
  | .mk _ l => dptL l + 1
def dptL : List Tr → Nat
  | [] => 0
  | t :: l => max (dpt t) (dptL l)
end
theorem dptL_le {l : List Tr} {m : Nat} (h : ∀ t ∈ l, dpt t ≤ m) : dptL l ≤ m := by
  induction l with
  | nil => exact Nat.zero_le _
  | cons t l ih => rw [dptL]; exact Nat.max_le.2 ⟨h t (by simp), ih (fun u hu => h u (by simp [hu]))⟩
theorem dptL_mem {l : List Tr} {t : Tr} (h : t ∈ l) : dpt t ≤ dptL l := by
  induction l with
  | nil => cases h
  | cons u l ih =>
    rw [dptL]
    rcases List.mem_cons.1 h with rfl | h
    · exact Nat.le_max_left _ _
    · exact Nat.le_trans (ih h) (Nat.le_max_right _ _)
theorem rightL_every {n : Nat} {l : List Tr} (h : ∀ t ∈ l, rightT n t = true) : rightL n l = true := by
  induction l with
  | nil => simp [rightL]
  | cons t l ih => simp only [rightL, h t (List.mem_cons_self ..), ih (fun t ht => h t (List.mem_cons_of_mem _ ht)), Bool.and_self]
theorem gt_right {t : Tr} (h : GT t) : ∀ n, dpt t ≤ n → rightT n t = true := by
  induction h with
  | lit k n s h h0 hn hs =>
    intro m hm
    obtain ⟨m, rfl⟩ : ∃ k, m = k + 1 := ⟨m - 1, by rw [dpt] at hm; omega⟩
    simp [rightT, rightL, kidsV, litS, h]
  | one r h =>
    intro m hm
    obtain ⟨m, rfl⟩ : ∃ k, m = k + 1 := ⟨m - 1, by rw [dpt] at hm; omega⟩
    simp [rightT, rightL, kidsV, oneS, h]
  | area a b h h' hs =>
    intro m hm
    obtain ⟨m, rfl⟩ : ∃ k, m = k + 1 := ⟨m - 1, by rw [dpt] at hm; omega⟩
    have h2 := h
    rw [hs] at h2
    simp [rightT, rightL, kidsV, areaS, h2, h', hs]
  | word l h =>
    intro m hm
    obtain ⟨m, rfl⟩ : ∃ k, m = k + 1 := ⟨m - 1, by rw [wordT, dpt] at hm; omega⟩
    simp [rightT, rightL, kidsV, wordT, mk_list, nameF_eq, h]
  | neg t h ih =>
    intro m hm
    rw [dpt, dptL, dptL] at hm
    obtain ⟨m, rfl⟩ : ∃ k, m = k + 1 := ⟨m - 1, by omega⟩
    simp [rightT, rightL, kidsV, parS, ih m (by omega)]
  | pct t h ih =>
    intro m hm
    rw [dpt, dptL, dptL] at hm
    obtain ⟨m, rfl⟩ : ∃ k, m = k + 1 := ⟨m - 1, by omega⟩
    simp [rightT, rightL, kidsV, parS, ih m (by omega)]
  | bin op t u hop ht hu ih ih' =>
    intro m hm
    rw [dpt, dptL, dptL, dptL] at hm
    obtain ⟨m, rfl⟩ : ∃ k, m = k + 1 := ⟨m - 1, by omega⟩
    simp [rightT, rightL, kidsV, parS, ih m (by omega), ih' m (by omega), hop]
  | call f ts hf ht ih =>
    intro m hm
    rw [dpt] at hm
    obtain ⟨m, rfl⟩ : ∃ k, m = k + 1 := ⟨m - 1, by omega⟩
    simp [rightT, kidsV, parS, hf, rightL_every (fun t ht' => ih t ht' m (by have := dptL_mem ht'; omega))]
/-! ### Pieces' and tokens' weights -/
def vS (v : Pc → Nat) (l : List Pc) : Nat := (l.map v).sum
def wS (w : Tok → Nat) (l : List Tok) : Nat := (l.map w).sum
theorem vS_app (v : Pc → Nat) (a b : List Pc) : vS v (a ++ b) = vS v a + vS v b := by simp [vS]
theorem vS_cons (v : Pc → Nat) (q : Pc) (b : List Pc) : vS v (q :: b) = v q + vS v b := by simp [vS]
theorem vS_nil (v : Pc → Nat) : vS v [] = 0 := rfl
theorem wS_cons (w : Tok → Nat) (t : Tok) (b : List Tok) : wS w (t :: b) = w t + wS w b := by simp [wS]
theorem wS_nil (w : Tok → Nat) : wS w [] = 0 := rfl
/-- No token weighs less than what it becomes. -/
structure Wt (v : Pc → Nat) (w : Tok → Nat) : Prop where
  sign : ∀ t : Tok, t.k = 4 → v (signP t.s) ≤ w t
  num : ∀ (t : Tok) n, t.k = 1 → Num.parse t.s = some n → v (numP n) ≤ w t
  text : ∀ t : Tok, t.k = 2 → v (textP t.s) ≤ w t
  word : ∀ t : Tok, t.k = 3 → v (wordP t.s) ≤ w t
  ref : ∀ (t : Tok) (s : Nat) a, s < 3 → t.k = 3 → refF t.s s = some a → v (wordP (refL a (s : Int))) ≤ w t
  err : ∀ t : Tok, t.k = 5 → t.s ∈ errLit → v (errP (errNo t.s)) ≤ w t
/-- A token that the lexer makes. -/
def TokV (E : Nat) (t : Tok) : Prop := t.p ≤ E ∧ (t.k = 1 ∨ t.k = 2 ∨ t.k = 3 ∨ t.k = 4 ∨ (t.k = 5 ∧ t.s ∈ errLit))
/-- Where a formula needs brackets. -/
theorem thr (p : Int) {x : Tr} (h : GT x) : ∃ f : Nat → Bool, (∀ a b, a ≤ b → f a = true → f b = true) ∧ ∀ lvl, pcs p lvl x = brk (f lvl) (pcs p 0 x) ∧ depT lvl x = depT 0 x + (if f lvl then 1 else 0) := by
  have no : ∀ y : Tr, (∀ v, pcs p v y = pcs p 0 y) → (∀ v, depT v y = depT 0 y) → ∃ f : Nat → Bool, (∀ a b, a ≤ b → f a = true → f b = true) ∧ ∀ lvl, pcs p lvl y = brk (f lvl) (pcs p 0 y) ∧ depT lvl y = depT 0 y + (if f lvl then 1 else 0) :=
    fun y h1 h2 => ⟨fun _ => false, ⟨fun _ _ _ h => (by cases h), fun lvl => ⟨h1 lvl, h2 lvl⟩⟩⟩
  cases h with
  | lit k n s h h0 hn hs =>
    exact no _ (fun v => by rw [pcs_lit, pcs_lit]) (fun v => by
      have : k ≤ 4 := by rcases vr_cases h with h | h | h | h | h <;> omega
      rw [dep_leaf _ _ _ (by decide : (1 : Int) ≤ 4), dep_leaf _ _ _ (by decide : (1 : Int) ≤ 4)])
  | one r h => exact no _ (fun v => by rw [pcs_one, pcs_one]) (fun v => by rw [dep_leaf _ _ _ (by decide : (2 : Int) ≤ 4), dep_leaf _ _ _ (by decide : (2 : Int) ≤ 4)])
  | area a b h h' hs => exact no _ (fun v => by rw [pcs_area, pcs_area]) (fun v => by rw [dep_leaf _ _ _ (by decide : (3 : Int) ≤ 4), dep_leaf _ _ _ (by decide : (3 : Int) ≤ 4)])
  | word l h => exact no _ (fun v => by rw [pcs_word, pcs_word]) (fun v => by rw [wordT, dep_leaf _ _ _ (by decide : (4 : Int) ≤ 4), dep_leaf _ _ _ (by decide : (4 : Int) ≤ 4)])
  | neg t h => exact ⟨fun v => decide (4 < v), fun a b hab ha => by simp only [decide_eq_true_eq] at ha ⊢; omega, fun lvl => ⟨by rw [pcs_neg, pcs_neg]; rfl, by rw [dep_neg, dep_neg]; simp only [decide_eq_true_eq]; rfl⟩⟩
  | pct t h => exact no _ (fun v => by rw [pcs_pct, pcs_pct]) (fun v => by rw [dep_pct, dep_pct])
  | bin op t u h ht hu => exact ⟨fun v => decide (lvlOf op < v), fun a b hab ha => by simp only [decide_eq_true_eq] at ha ⊢; omega, fun lvl => ⟨by rw [pcs_bin, pcs_bin]; rfl, by rw [dep_bin, dep_bin]; simp only [decide_eq_true_eq]; rfl⟩⟩
  | call f ts h ht => exact no _ (fun v => by rw [pcs_call, pcs_call]) (fun v => by rw [dep_call, dep_call])
theorem vS_mono (v : Pc → Nat) (p : Int) {x : Tr} (h : GT x) {a b : Nat} (hab : a ≤ b) : vS v (pcs p a x) ≤ vS v (pcs p b x) ∧ depT a x ≤ depT b x := by
  obtain ⟨f, hf, hx⟩ := thr p h
  rw [(hx a).1, (hx b).1, (hx a).2, (hx b).2]
  cases ha : f a with
  | true => rw [hf a b hab ha]; exact ⟨Nat.le_refl _, Nat.le_refl _⟩
  | false =>
    cases hb : f b with
    | false => exact ⟨Nat.le_refl _, Nat.le_refl _⟩
    | true => exact ⟨by simp only [brk, Bool.false_eq_true, if_false, if_true, vS_cons, vS_app]; omega, by simp⟩
theorem vS_brk (v : Pc → Nat) (p : Int) {x : Tr} (h : GT x) (a : Nat) : vS v (pcs p a x) ≤ v (signP [40]) + vS v (pcs p 0 x) + v (signP [41]) ∧ depT a x ≤ depT 0 x + 1 := by
  obtain ⟨f, hf, hx⟩ := thr p h
  rw [(hx a).1, (hx a).2]
  cases f a with
  | true => exact ⟨by simp only [brk, if_true, vS_cons, vS_app, vS_nil]; omega, by simp⟩
  | false => exact ⟨by simp only [brk, Bool.false_eq_true, if_false]; omega, by simp⟩
section
variable (v : Pc → Nat) (w : Tok → Nat) (E sh : Nat)
/-- What a parser function hands back. -/
structure Out (lvl d : Nat) (x : Tr) (r ts : List Tok) : Prop where
  good : GT x
  suf : r <:+ ts
  wt : vS v (pcs (sh : Int) lvl x) + wS w r ≤ wS w ts
  tall : dpt x + r.length ≤ ts.length
  deep : d + depT lvl x ≤ 64
def OutR (lvl d : Nat) (ts : List Tok) : Except (Nat × Nat) (Tr × List Tok) → Prop
  | .ok (x, r) => Out v w sh lvl d x r ts
  | .error (c, p) => 2 ≤ c ∧ c ≤ 6 ∧ p ≤ E
variable {v w E sh}
theorem Out.mono {lvl lvl' d : Nat} {x : Tr} {r ts : List Tok} (h : Out v w sh lvl d x r ts) (hl : lvl' ≤ lvl) : Out v w sh lvl' d x r ts := by
  obtain ⟨h1, h2⟩ := vS_mono v (sh : Int) h.good hl
  exact ⟨h.good, h.suf, by have := h.wt; omega, h.tall, by have := h.deep; omega⟩
theorem TokV.sub {r ts : List Tok} (h : r <:+ ts) (hv : ∀ t ∈ ts, TokV E t) : ∀ t ∈ r, TokV E t := fun t ht => hv t (h.subset ht)
theorem posF_le {ts : List Tok} (hv : ∀ t ∈ ts, TokV E t) : posF E ts ≤ E := by
  cases ts with
  | nil => exact Nat.le_refl _
  | cons t r => exact (hv t (by simp)).1
theorem isS_some {x : List UInt8} {ts r : List Tok} (h : isS x ts = some r) : ∃ t, ts = t :: r ∧ t.k = 4 ∧ t.s = x := by
  cases ts with
  | nil => cases h
  | cons t l =>
    simp only [isS] at h
    split at h
    · rename_i hc
      injection h with h
      subst h
      simp only [Bool.and_eq_true, beq_iff_eq] at hc
      exact ⟨t, rfl, hc⟩
    · cases h
theorem opF_some {lvl : Nat} {ts r : List Tok} {k : Nat} (hl : lvl < 4) (h : opF lvl ts = some (k, r)) : ∃ t, ts = t :: r ∧ t.k = 4 ∧ (1 ≤ (k : Int) ∧ (k : Int) ≤ 11) ∧ lvlOf k = lvl ∧ opL k = t.s := by
  cases ts with
  | nil => cases h
  | cons t l =>
    simp only [opF] at h
    split at h
    · rename_i hc
      injection h with h
      injection h with hk h
      subst h
      simp only [Bool.and_eq_true, beq_iff_eq, List.contains_iff_mem] at hc
      have hall : ∀ j, j < 4 → ∀ s ∈ lvlLit j, (1 ≤ ((opNo s : Nat) : Int) ∧ ((opNo s : Nat) : Int) ≤ 11) ∧ lvlOf (opNo s : Nat) = j ∧ opL (opNo s : Nat) = s := by decide
      have := hall lvl hl t.s hc.2
      rw [hk] at this
      exact ⟨t, rfl, hc.1, this⟩
    · cases h
theorem refF_ins {l : List UInt8} {t : Nat} {r : Rf} (ht : t < 3) (h : refF l t = some r) : insV r.s r.c r.r = true := by
  obtain ⟨s, c, q, x, y, ⟨h1, h2, h3⟩, rfl, -⟩ := refF_of ht h
  simp only [insV, Bool.and_eq_true, decide_eq_true_eq]
  omega
theorem litT_good {k n : Int} {l : List UInt8} (h : vr k n (mk l) = true) (h0 : 0 ≤ n) (hn : n ≤ 9223372036854775807) (hl : l.length ≤ 64) : GT (litT k n l) := .lit k n (mk l) h h0 hn (by rw [mk_size]; exact hl)
theorem litT_pcs (p : Int) (lvl : Nat) (k n : Int) (l : List UInt8) : pcs p lvl (litT k n l) = litP k n l := by rw [litT, pcs_lit, mk_list]
theorem litT_dep (lvl : Nat) (k n : Int) (l : List UInt8) : depT lvl (litT k n l) = 0 := dep_leaf _ _ _ (by decide : (1 : Int) ≤ 4)
theorem dpt_leaf (s : Sc) : dpt (.mk s []) = 1 := by rw [dpt, dptL]
/-- A leaf out of one token. -/
theorem out_leaf {lvl d : Nat} {x : Tr} {t : Tok} {r : List Tok} {q : Pc} (hd : d ≤ 64) (hg : GT x) (hp : pcs (sh : Int) lvl x = [q]) (hq : v q ≤ w t) (h1 : dpt x = 1) (h2 : depT lvl x = 0) : Out v w sh lvl d x r (t :: r) :=
  ⟨hg, List.suffix_cons t r, by rw [hp, vS_cons, vS_nil, wS_cons]; omega, by rw [h1, List.length_cons]; omega, by omega⟩
theorem out_simple (hw : Wt v w) {d : Nat} {t : Tok} {r : List Tok} (hd : d ≤ 64) (hv : TokV E t) (h4 : t.k ≠ 4) (h3 : t.k ≠ 3) : OutR v w E sh 5 d (t :: r) (simpleP t r) := by
  obtain ⟨hpos, hk⟩ := hv
  unfold simpleP
  by_cases h1 : t.k = 1
  · rw [if_pos (by simp [h1])]
    cases hn : Num.parse t.s with
    | none => exact ⟨by omega, by omega, hpos⟩
    | some n =>
      have hle := Num.parse_le hn
      refine out_leaf hd (litT_good (by unfold vr; exact decide_eq_true (.inr (.inl ⟨rfl, by omega, rfl⟩))) (by omega) (by omega) (by simp)) (litT_pcs _ _ _ _ _ |>.trans ?_) (hw.num t n h1 hn) (dpt_leaf _) (litT_dep _ _ _ _)
      unfold litP
      rw [if_neg (by decide), if_neg (by decide), if_pos rfl, if_neg (by omega), show ((n : Nat) : Int).natAbs = n by omega]
  rw [if_neg (by simp [h1])]
  by_cases h2 : t.k = 2
  · rw [if_pos (by simp [h2])]
    by_cases hl : 64 < t.s.length
    · rw [if_pos hl]; exact ⟨by omega, by omega, hpos⟩
    · rw [if_neg hl]
      refine out_leaf hd (litT_good (by unfold vr; exact decide_eq_true (.inr (.inr (.inl ⟨rfl, rfl, by rw [mk_size]; omega⟩)))) (by omega) (by omega) (by omega)) (litT_pcs _ _ _ _ _ |>.trans ?_) (hw.text t h2) (dpt_leaf _) (litT_dep _ _ _ _)
      unfold litP
      rw [if_neg (by decide), if_pos rfl]
  rw [if_neg (by simp [h2])]
  have h5 : t.k = 5 ∧ t.s ∈ errLit := by
    rcases hk with h | h | h | h | h
    · exact absurd h h1
    · exact absurd h h2
    · exact absurd h h3
    · exact absurd h h4
    · exact h
  have hno : 1 ≤ errNo t.s ∧ errNo t.s ≤ 7 := by
    have hall : ∀ s ∈ errLit, 1 ≤ errNo s ∧ errNo s ≤ 7 := by decide
    exact hall _ h5.2
  refine out_leaf hd (litT_good (by unfold vr; exact decide_eq_true (.inr (.inr (.inr (.inr ⟨rfl, by omega, by omega, rfl⟩))))) (by omega) (by omega) (by simp)) (litT_pcs _ _ _ _ _ |>.trans ?_) (hw.err t h5.1 h5.2) (dpt_leaf _) (litT_dep _ _ _ _)
  unfold litP
  rw [if_neg (by decide), if_neg (by decide), if_neg (by decide), if_neg (by decide)]
  rfl
theorem out_atom (hw : Wt v w) (hsh : sh < 3) {d : Nat} {t : Tok} {r : List Tok} (hd : d ≤ 64) (hv : ∀ t' ∈ t :: r, TokV E t') (h3 : t.k = 3) : OutR v w E sh 5 d (t :: r) (atomP E sh t r) := by
  have hpos := (hv t (by simp)).1
  unfold atomP
  cases hr : refF t.s sh with
  | some a =>
    have ha := refF_ins hsh hr
    have hwa := hw.ref t sh a hsh h3 hr
    simp only
    unfold areaP
    cases hi : isS [58] r with
    | none => exact out_leaf hd (.one a ha) (pcs_one _ _ _) hwa (dpt_leaf _) (dep_leaf _ _ _ (by decide : (2 : Int) ≤ 4))
    | some r1 =>
      obtain ⟨tc, rfl, kc, sc⟩ := isS_some hi
      simp only
      cases r1 with
      | nil => exact ⟨by omega, by omega, Nat.le_refl _⟩
      | cons t2 r2 =>
        have hpos2 := (hv t2 (by simp)).1
        simp only
        by_cases hk2 : t2.k = 3
        · rw [if_neg (by simp [hk2])]
          obtain ⟨b1, b2, b3⟩ := ins_bd ha
          cases hr2 : refF t2.s a.s.toNat with
          | none => exact ⟨by omega, by omega, hpos2⟩
          | some b =>
            simp only
            have hb := refF_ins (by omega) hr2
            by_cases hs : b.s = a.s
            · rw [if_pos (by simp [hs])]
              have hwb := hw.ref t2 a.s.toNat b (by omega) hk2 hr2
              have hwc := hw.sign tc kc
              rw [sc] at hwc
              rw [show ((a.s.toNat : Nat) : Int) = b.s by omega] at hwb
              refine ⟨.area a b ha hb hs.symm, ⟨[t, tc, t2], rfl⟩, ?_, ?_, ?_⟩
              · rw [pcs_area]
                simp only [vS_cons, vS_nil, wS_cons]
                omega
              · rw [dpt_leaf]; simp only [List.length_cons]; omega
              · rw [dep_leaf _ _ _ (by decide : (3 : Int) ≤ 4)]; omega
            · rw [if_neg (by simp [hs])]; exact ⟨by omega, by omega, hpos2⟩
        · rw [if_pos (by simp [hk2])]; exact ⟨by omega, by omega, hpos2⟩
  | none =>
    simp only
    by_cases ht : t.s = [84, 82, 85, 69] ∨ t.s = [70, 65, 76, 83, 69]
    · rw [if_pos (by simpa using ht)]
      have hww := hw.word t h3
      rcases ht with ht | ht
      · rw [ht] at hww ⊢
        refine out_leaf hd (litT_good (by rfl) (by decide) (by decide) (by simp)) (litT_pcs _ _ _ _ _ |>.trans ?_) hww (dpt_leaf _) (litT_dep _ _ _ _)
        rfl
      · rw [ht] at hww ⊢
        refine out_leaf hd (litT_good (by rfl) (by decide) (by decide) (by simp)) (litT_pcs _ _ _ _ _ |>.trans ?_) hww (dpt_leaf _) (litT_dep _ _ _ _)
        rfl
    · rw [if_neg (by simpa using ht)]
      cases hn : nameF t.s with
      | false => exact ⟨by omega, by omega, hpos⟩
      | true => exact out_leaf hd (.word t.s hn) (pcs_word _ _ _) (hw.word t h3) (dpt_leaf _) (dep_leaf _ _ _ (by decide : (4 : Int) ≤ 4))
theorem out_pct (hw : Wt v w) {d : Nat} {ts : List Tok} : ∀ (l : List Tok) (x : Tr), Out v w sh 5 d x l ts → Out v w sh 5 d (pctF x l).1 (pctF x l).2 ts
  | [], x, h => h
  | t :: r, x, h => by
    rw [pctF]
    split
    · rename_i hc
      simp only [Bool.and_eq_true, beq_iff_eq] at hc
      have hwt := hw.sign t hc.1
      rw [hc.2] at hwt
      refine out_pct hw r _ ⟨.pct x h.good, (List.suffix_cons t r).trans h.suf, ?_, ?_, by rw [dep_pct]; exact h.deep⟩
      · rw [pcs_pct, vS_app, vS_cons, vS_nil]; have := h.wt; rw [wS_cons] at this; omega
      · rw [dpt, dptL, dptL]; have := h.tall; rw [List.length_cons] at this; omega
    · exact h
/-- What the arguments are. -/
structure OutA (d : Nat) (e : Bool) (l : List Tr) (r ts : List Tok) : Prop where
  good : ∀ x ∈ l, GT x
  suf : r <:+ ts
  wt : vS v (if e then joinP (l.map (pcs (sh : Int) 0)) else (l.map (pcs (sh : Int) 0)).flatMap (fun y => signP [44] :: y)) + v (signP [41]) + wS w r ≤ wS w ts
  tall : dptL l + r.length + 1 ≤ ts.length
  deep : ∀ x ∈ l, d + 1 + depT 0 x ≤ 64
variable (v w E sh) in
structure Outs (n : Nat) : Prop where
  expr : ∀ lvl d ts R, lvl ≤ 4 → d ≤ 64 → (∀ t ∈ ts, TokV E t) → exprF E sh n lvl d ts = some R → OutR v w E sh lvl d ts R
  loop : ∀ lvl d x ts ts0 R, lvl < 4 → d ≤ 64 → (∀ t ∈ ts0, TokV E t) → Out v w sh lvl d x ts ts0 → loopF E sh n lvl d x ts = some R → OutR v w E sh lvl d ts0 R
  unary : ∀ d ts R, d ≤ 64 → (∀ t ∈ ts, TokV E t) → unaryF E sh n d ts = some R → OutR v w E sh 4 d ts R
  prim : ∀ d ts R, d ≤ 64 → (∀ t ∈ ts, TokV E t) → primF E sh n d ts = some R → OutR v w E sh 5 d ts R
  word : ∀ d t ts R, d ≤ 64 → t.k = 3 → (∀ t' ∈ t :: ts, TokV E t') → wordF E sh n d t ts = some R → OutR v w E sh 5 d (t :: ts) R
  args : ∀ d ar ts R, d ≤ 64 → (∀ t ∈ ts, TokV E t) → argsF E sh n d ar ts = some R → match R with
    | .ok (ar', r) => ∃ l, ar' = ar ++ l ∧ OutA (v := v) (w := w) (sh := sh) d ar.isEmpty l r ts
    | .error (c, p) => 2 ≤ c ∧ c ≤ 6 ∧ p ≤ E
theorem numOf_name {s : List UInt8} (h : numOf s ≠ 0) : nameOf (numOf s : Int) = s ∧ 1 ≤ numOf s ∧ numOf s ≤ 54 := by
  unfold numOf at h ⊢
  cases hf : (List.range 54).find? (fun k => fnN k == s) with
  | none => rw [hf] at h; exact absurd rfl h
  | some k =>
    simp only
    have h1 := List.find?_some hf
    have h2 := List.mem_range.1 (List.mem_of_find?_eq_some hf)
    refine ⟨?_, by omega, by omega⟩
    unfold nameOf
    rw [if_pos (by omega), show ((k + 1 : Nat) : Int).toNat - 1 = k by omega]
    simpa using h1
theorem outs (hw : Wt v w) (hsh : sh < 3) : ∀ n, Outs v w E sh n
  | 0 => ⟨fun _ _ _ _ _ _ _ h => by simp [exprF] at h, fun _ _ _ _ _ _ _ _ _ _ h => by simp [loopF] at h, fun _ _ _ _ _ h => by simp [unaryF] at h, fun _ _ _ _ _ h => by simp [primF] at h, fun _ _ _ _ _ _ _ h => by simp [wordF] at h, fun _ _ _ _ _ _ h => by simp [argsF] at h⟩
  | n + 1 => by
    have ih := outs hw hsh n
    refine ⟨fun lvl d ts R hl hd hv h => ?_, fun lvl d x ts ts0 R hl hd hv ho h => ?_, fun d ts R hd hv h => ?_, fun d ts R hd hv h => ?_, fun d t ts R hd h3 hv h => ?_, fun d ar ts R hd hv h => ?_⟩
    · rw [exprF] at h
      split at h
      · rename_i h4
        obtain rfl : lvl = 4 := by simpa using h4
        exact ih.unary d ts R hd hv h
      · rename_i h4
        have h4 : lvl ≠ 4 := by simpa using h4
        cases hx : exprF E sh n (lvl + 1) d ts with
        | none => rw [hx] at h; cases h
        | some R1 =>
          have h1 := ih.expr _ _ _ _ (by omega) hd hv hx
          rw [hx] at h
          rcases R1 with ⟨c, p⟩ | ⟨y, ts'⟩
          · injection h with h; rw [← h]; exact h1
          · exact ih.loop lvl d y ts' ts R (by omega) hd hv (Out.mono h1 (Nat.le_succ _)) h
    · rw [loopF] at h
      cases ho2 : opF lvl ts with
      | none => rw [ho2] at h; injection h with h; rw [← h]; exact ho
      | some q =>
        obtain ⟨op, ts1⟩ := q
        rw [ho2] at h
        simp only at h
        obtain ⟨t, rfl, hk, hr, hlv, hL⟩ := opF_some hl ho2
        have hsuf : ts1 <:+ ts0 := (List.suffix_cons t ts1).trans ho.suf
        cases hx : exprF E sh n (lvl + 1) d ts1 with
        | none => rw [hx] at h; cases h
        | some R1 =>
          have h1 := ih.expr _ _ _ _ (by omega) hd (TokV.sub hsuf hv) hx
          rw [hx] at h
          rcases R1 with ⟨c, p⟩ | ⟨z, ts2⟩
          · injection h with h; rw [← h]; exact h1
          · simp only at h
            have h1 : Out v w sh (lvl + 1) d z ts2 ts1 := h1
            refine ih.loop lvl d _ ts2 ts0 R hl hd hv ⟨.bin op x z hr ho.good h1.good, h1.suf.trans hsuf, ?_, ?_, ?_⟩ h
            · have hwt := hw.sign t hk
              rw [pcs_bin, hlv, decide_eq_false (Nat.lt_irrefl _)]
              simp only [brk, Bool.false_eq_true, if_false, vS_app, vS_cons, hL]
              have := h1.wt
              have := ho.wt
              rw [wS_cons] at this
              omega
            · rw [dpt, dptL, dptL, dptL]
              have h2 := h1.tall
              have h3 := ho.tall
              rw [List.length_cons] at h3
              have := h1.suf.length_le
              omega
            · rw [dep_bin, hlv, if_neg (Nat.lt_irrefl _)]
              have := h1.deep
              have := ho.deep
              omega
    · rw [unaryF] at h
      cases hi : isS [45] ts with
      | some ts1 =>
        obtain ⟨t, rfl, hk, hs⟩ := isS_some hi
        rw [hi] at h
        simp only [beq_iff_eq] at h
        have hv1 := TokV.sub (List.suffix_cons t ts1) hv
        by_cases h64 : d = 64
        · rw [if_pos h64] at h; injection h with h; rw [← h]; exact ⟨by omega, by omega, posF_le hv1⟩
        rw [if_neg h64] at h
        cases hx : unaryF E sh n (d + 1) ts1 with
        | none => rw [hx] at h; cases h
        | some R1 =>
          have h1 := ih.unary _ _ _ (by omega) hv1 hx
          rw [hx] at h
          rcases R1 with ⟨c, p⟩ | ⟨y, ts'⟩
          · injection h with h; rw [← h]; exact h1
          · injection h with h
            rw [← h]
            have h1 : Out v w sh 4 (d + 1) y ts' ts1 := h1
            have hwt := hw.sign t hk
            rw [hs] at hwt
            refine ⟨.neg y h1.good, h1.suf.trans (List.suffix_cons t ts1), ?_, ?_, ?_⟩
            · rw [pcs_neg, decide_eq_false (Nat.lt_irrefl _)]
              simp only [brk, Bool.false_eq_true, if_false, vS_cons, wS_cons]
              have := h1.wt
              omega
            · rw [dpt, dptL, dptL, List.length_cons]; have := h1.tall; omega
            · rw [dep_neg, if_neg (Nat.lt_irrefl _)]; have := h1.deep; omega
      | none =>
        rw [hi] at h
        simp only at h
        cases hx : primF E sh n d ts with
        | none => rw [hx] at h; cases h
        | some R1 =>
          have h1 := ih.prim _ _ _ hd hv hx
          rw [hx] at h
          rcases R1 with ⟨c, p⟩ | ⟨y, ts'⟩
          · injection h with h; rw [← h]; exact h1
          · injection h with h
            rw [← h]
            exact Out.mono (out_pct hw ts' y h1) (by omega)
    · cases hi : isS [40] ts with
      | some ts1 =>
        obtain ⟨t, rfl, hk, hs⟩ := isS_some hi
        have hv1 := TokV.sub (List.suffix_cons t ts1) hv
        rcases prim_par hi h with ⟨h64, rfl⟩ | ⟨h64, R1, hx, rfl⟩
        · exact ⟨by omega, by omega, posF_le hv1⟩
        have h1 := ih.expr _ _ _ _ (by omega) (by omega) hv1 hx
        rcases R1 with ⟨c, p⟩ | ⟨y, ts'⟩
        · exact h1
        have h1 : Out v w sh 0 (d + 1) y ts' ts1 := h1
        show OutR v w E sh 5 d (t :: ts1) (shutP E (y, ts'))
        unfold shutP
        simp only
        cases hj : isS [41] ts' with
        | none => exact ⟨by omega, by omega, posF_le (TokV.sub h1.suf hv1)⟩
        | some ts3 =>
          obtain ⟨t2, rfl, hk2, hs2⟩ := isS_some hj
          obtain ⟨b1, b2⟩ := vS_brk v (sh : Int) h1.good 5
          have hwt := hw.sign t hk
          have hwt2 := hw.sign t2 hk2
          rw [hs] at hwt
          rw [hs2] at hwt2
          refine ⟨h1.good, (List.suffix_cons t2 ts3).trans (h1.suf.trans (List.suffix_cons t ts1)), ?_, ?_, ?_⟩
          · have := h1.wt; rw [wS_cons] at this ⊢; omega
          · have := h1.tall; rw [List.length_cons] at this ⊢; omega
          · have := h1.deep; omega
      | none =>
        rcases prim_no hi h with ⟨rfl, rfl⟩ | ⟨t, r, rfl, ⟨h4, rfl⟩ | ⟨h3, hx⟩ | ⟨h4, h3, rfl⟩⟩
        · exact ⟨by omega, by omega, Nat.le_refl _⟩
        · exact ⟨by omega, by omega, (hv t (by simp)).1⟩
        · exact ih.word d t r R hd h3 hv hx
        · exact out_simple hw hd (hv t (by simp)) h4 h3
    · rw [wordF] at h
      cases hi : isS [40] ts with
      | none => rw [hi] at h; injection h with h; rw [← h]; exact out_atom hw hsh hd hv h3
      | some r2 =>
        obtain ⟨t2, rfl, hk2, hs2⟩ := isS_some hi
        rw [hi] at h
        simp only at h
        split at h
        · injection h with h; rw [← h]; exact ⟨by omega, by omega, (hv t (by simp)).1⟩
        rename_i hnz
        have hsuf : r2 <:+ t :: t2 :: r2 := ⟨[t, t2], rfl⟩
        cases hx : argsF E sh n d [] r2 with
        | none => rw [hx] at h; cases h
        | some R1 =>
          have h1 := ih.args _ _ _ _ hd (TokV.sub hsuf hv) hx
          rw [hx] at h
          rcases R1 with ⟨c, p⟩ | ⟨ar, ts'⟩
          · injection h with h; rw [← h]; exact h1
          · injection h with h
            rw [← h]
            obtain ⟨l, hl, hA⟩ := h1
            rw [List.nil_append] at hl
            subst hl
            have hwt := hw.word t h3
            have hwt2 := hw.sign t2 hk2
            rw [hs2] at hwt2
            have hAw := hA.wt
            simp only [List.isEmpty_nil, if_true] at hAw
            unfold endP
            by_cases h0 : numOf t.s = 0
            · rw [h0]
              cases ar with
              | nil =>
                have hB : t.s = [66, 76, 65, 78, 75] := by simpa [h0] using hnz
                rw [if_pos (by decide)]
                rw [hB] at hwt
                refine ⟨litT_good (by rfl) (by decide) (by decide) (by simp), hA.suf.trans hsuf, ?_, ?_, ?_⟩
                · rw [litT_pcs]
                  simp only [litP, if_true, vS_cons, vS_nil, wS_cons]
                  simp only [List.map_nil, joinP, vS_nil] at hAw
                  omega
                · rw [litT, dpt_leaf]; have := hA.tall; simp only [List.length_cons]; omega
                · rw [litT_dep]; omega
              | cons a ar =>
                rw [if_neg (by simp), if_pos (by rfl)]
                exact ⟨by omega, by omega, posF_le (TokV.sub (hA.suf.trans hsuf) hv)⟩
            · obtain ⟨hN, hN1, hN2⟩ := numOf_name h0
              rw [if_neg (by simp; intro e; omega)]
              by_cases hf : fitsOf (numOf t.s : Int) ar.length = true
              · rw [if_neg (by simp [hf])]
                refine ⟨.call _ ar hf hA.good, hA.suf.trans hsuf, ?_, ?_, ?_⟩
                · rw [pcs_call, hN]
                  simp only [vS_cons, vS_app, vS_nil, wS_cons]
                  omega
                · rw [dpt]; have := hA.tall; simp only [List.length_cons]; omega
                · rw [dep_call]
                  have : ∀ l : List Tr, (∀ x ∈ l, d + 1 + depT 0 x ≤ 64) → d + (l.map (depT 0)).foldr (fun d m => max (d + 1) m) 0 ≤ 64 := by
                    intro l
                    induction l with
                    | nil => intro _; exact hd
                    | cons y l ihl =>
                      intro hl
                      have h1 := hl y (by simp)
                      have h2 := ihl (fun z hz => hl z (by simp [hz]))
                      simp only [List.map_cons, List.foldr_cons]
                      omega
                  exact this ar hA.deep
              · rw [if_pos (by simp [hf])]
                exact ⟨by omega, by omega, posF_le (TokV.sub (hA.suf.trans hsuf) hv)⟩
    · rw [argsF] at h
      cases hi : isS [41] ts with
      | some ts1 =>
        obtain ⟨t, rfl, hk, hs⟩ := isS_some hi
        have hwt := hw.sign t hk
        rw [hs] at hwt
        rw [hi] at h
        injection h with h
        rw [← h]
        refine ⟨[], (List.append_nil _).symm, fun x hx => (by cases hx), List.suffix_cons t ts1, ?_, ?_, fun x hx => (by cases hx)⟩
        · cases ar.isEmpty <;> simp only [List.map_nil, joinP, List.flatMap_nil, if_true, Bool.false_eq_true, if_false, vS_nil, wS_cons] <;> omega
        · simp only [dptL, List.length_cons]; omega
      | none =>
        rw [hi] at h
        simp only at h
        -- where the next argument begins
        have key : ∀ ts1, (if ar.isEmpty then some ts else isS [44] ts) = some ts1 → ts1 <:+ ts ∧ (if ar.isEmpty then 0 else v (signP [44])) + wS w ts1 ≤ wS w ts ∧ ts1.length ≤ ts.length := by
          intro ts1 hk
          split at hk
          · injection hk with hk; rw [← hk]; rename_i he; rw [if_pos he]; exact ⟨List.suffix_refl _, by omega, Nat.le_refl _⟩
          · rename_i he
            obtain ⟨t, rfl, hk4, hs⟩ := isS_some hk
            have hwt := hw.sign t hk4
            rw [hs] at hwt
            rw [if_neg he, wS_cons]
            exact ⟨List.suffix_cons t ts1, by omega, by simp⟩
        cases hk : (if ar.isEmpty then some ts else isS [44] ts) with
        | none => rw [hk] at h; injection h with h; rw [← h]; exact ⟨by omega, by omega, posF_le hv⟩
        | some ts1 =>
          obtain ⟨k1, k2, k3⟩ := key ts1 hk
          rw [hk] at h
          simp only [beq_iff_eq] at h
          by_cases h64 : d = 64
          · rw [if_pos h64] at h; injection h with h; rw [← h]; exact ⟨by omega, by omega, posF_le (TokV.sub k1 hv)⟩
          rw [if_neg h64] at h
          cases hx : exprF E sh n 0 (d + 1) ts1 with
          | none => rw [hx] at h; cases h
          | some R1 =>
            have h1 := ih.expr _ _ _ _ (by omega) (by omega) (TokV.sub k1 hv) hx
            rw [hx] at h
            rcases R1 with ⟨c, p⟩ | ⟨y, ts2⟩
            · injection h with h; rw [← h]; exact h1
            · simp only at h
              have h1 : Out v w sh 0 (d + 1) y ts2 ts1 := h1
              have h2 := ih.args d (ar ++ [y]) ts2 R hd (TokV.sub (h1.suf.trans k1) hv) h
              rcases R with ⟨c, p⟩ | ⟨ar', r⟩
              · exact h2
              · obtain ⟨l, hl, hA⟩ := h2
                refine ⟨y :: l, by rw [hl]; simp, fun x hx => ?_, hA.suf.trans (h1.suf.trans k1), ?_, ?_, fun x hx => ?_⟩
                · rcases List.mem_cons.1 hx with rfl | hx
                  · exact h1.good
                  · exact hA.good x hx
                · have hAw := hA.wt
                  rw [if_neg (by simp)] at hAw
                  have := h1.wt
                  cases he : ar.isEmpty
                  · rw [he] at k2
                    simp only [Bool.false_eq_true, if_false, List.map_cons, List.flatMap_cons, List.cons_append, vS_cons, vS_app] at k2 ⊢
                    omega
                  · rw [he] at k2
                    simp only [if_true, List.map_cons, joinP, vS_app] at k2 ⊢
                    omega
                · rw [dptL]
                  have := hA.tall
                  have := h1.tall
                  have := hA.suf.length_le
                  omega
                · rcases List.mem_cons.1 hx with rfl | hx
                  · have := h1.deep; omega
                  · exact hA.deep x hx
end
/-! ### The lexer's tokens -/
theorem find_mem' {l : List (List UInt8)} {s x : List UInt8} (h : l.find? (fun x => x.isPrefixOf s) = some x) : x ∈ l ∧ x.isPrefixOf s = true := ⟨List.mem_of_find?_eq_some h, by have := (List.find?_eq_some_iff_append.1 h).1; simpa using this⟩
theorem oneT_kind {s : List UInt8} {k : Nat} {t : List UInt8} {m : Nat} (h : oneT s = some (k, t, m)) : k = 1 ∨ k = 2 ∨ k = 3 ∨ k = 4 ∨ (k = 5 ∧ t ∈ errLit) := by
  unfold oneT at h
  cases s with
  | nil => cases h
  | cons c l =>
    simp only at h
    split at h
    · injection h with h; injection h with h _; exact .inl h.symm
    split at h
    · split at h
      · cases h
      · injection h with h; injection h with h _; exact .inr (.inl h.symm)
    split at h
    · cases hf : errLit.find? (fun x => x.isPrefixOf (c :: l)) with
      | none => rw [hf] at h; cases h
      | some x =>
        rw [hf] at h
        simp only [Option.map_some] at h
        injection h with h; injection h with h h2; injection h2 with h2 _
        exact .inr (.inr (.inr (.inr ⟨h.symm, h2 ▸ (find_mem' hf).1⟩)))
    split at h
    · injection h with h; injection h with h _; exact .inr (.inr (.inl h.symm))
    · cases hf : signLit.find? (fun x => x.isPrefixOf (c :: l)) with
      | none => rw [hf] at h; cases h
      | some x =>
        rw [hf] at h
        simp only [Option.map_some] at h
        injection h with h; injection h with h _
        exact .inr (.inr (.inr (.inl h.symm)))
theorem lex_valid : ∀ (n : Nat) (s : List UInt8) (i E : Nat) (ts : List Tok), i + s.length ≤ E → lexF n s i = .ok ts → ∀ t ∈ ts, TokV E t
  | 0, s, i, E, ts, _, h => by
    rw [lexF] at h; injection h with h; rw [← h]; intro t ht; cases ht
  | n + 1, [], i, E, ts, _, h => by
    rw [lexF] at h; injection h with h; rw [← h]; intro t ht; cases ht
  | n + 1, c :: l, i, E, ts, hi, h => by
    rw [lexF] at h
    simp only [List.length_cons] at hi
    split at h
    · exact lex_valid n l (i + 1) E ts (by omega) h
    · cases ho : oneT (c :: l) with
      | none => rw [ho] at h; cases h
      | some q =>
        obtain ⟨k, s, m⟩ := q
        rw [ho] at h
        simp only at h
        have hf := oneT_facts ho
        have hm : m ≤ l.length + 1 := hf.2.1
        cases hx : lexF n ((c :: l).drop m) (i + m) with
        | error e => rw [hx] at h; cases h
        | ok r =>
          rw [hx] at h
          injection h with h
          rw [← h]
          intro t ht
          rcases List.mem_cons.1 ht with rfl | ht
          · exact ⟨by show i ≤ E; omega, oneT_kind ho⟩
          · exact lex_valid n _ (i + m) E r (by rw [List.length_drop, List.length_cons]; omega) hx t ht
theorem lex_few : ∀ (n : Nat) (s : List UInt8) (i : Nat) (ts : List Tok), lexF n s i = .ok ts → ts.length ≤ s.length
  | 0, s, i, ts, h => by rw [lexF] at h; injection h with h; rw [← h]; exact Nat.zero_le _
  | n + 1, [], i, ts, h => by rw [lexF] at h; injection h with h; rw [← h]; exact Nat.zero_le _
  | n + 1, c :: l, i, ts, h => by
    rw [lexF] at h
    split at h
    · exact Nat.le_succ_of_le (lex_few n l (i + 1) ts h)
    · cases ho : oneT (c :: l) with
      | none => rw [ho] at h; cases h
      | some q =>
        obtain ⟨k, s, m⟩ := q
        rw [ho] at h
        simp only at h
        have hf := oneT_facts ho
        cases hx : lexF n ((c :: l).drop m) (i + m) with
        | error e => rw [hx] at h; cases h
        | ok r =>
          rw [hx] at h
          injection h with h
          rw [← h]
          have := lex_few n _ (i + m) r hx
          rw [List.length_drop] at this
          simp only [List.length_cons] at this ⊢
          have := hf.1
          omega
theorem lex_at : ∀ (n : Nat) (s : List UInt8) (i : Nat) (p : Nat), lexF n s i = .error p → p ≤ i + s.length
  | 0, s, i, p, h => by rw [lexF] at h; cases h
  | n + 1, [], i, p, h => by rw [lexF] at h; cases h
  | n + 1, c :: l, i, p, h => by
    rw [lexF] at h
    simp only [List.length_cons]
    split at h
    · have := lex_at n l (i + 1) p h; omega
    · cases ho : oneT (c :: l) with
      | none => rw [ho] at h; injection h with h; omega
      | some q =>
        obtain ⟨k, s, m⟩ := q
        rw [ho] at h
        simp only at h
        have hf := oneT_facts ho
        have hm : m ≤ l.length + 1 := hf.2.1
        cases hx : lexF n ((c :: l).drop m) (i + m) with
        | ok r => rw [hx] at h; cases h
        | error e =>
          rw [hx] at h
          injection h with h
          have := lex_at n _ (i + m) e hx
          rw [List.length_drop, List.length_cons] at this
          omega
/-- What a text's formula is, or its error. -/
def ParOut (v : Pc → Nat) (w : Tok → Nat) (s : List UInt8) (sh : Nat) : Except (Nat × Nat) Tr → Prop
  | .ok x => GT x ∧ dpt x ≤ s.length ∧ depT 0 x ≤ 64 ∧ s.length ≤ 200 ∧ ∃ ts, lexAll s = .ok ts ∧ vS v (pcs (sh : Int) 0 x) ≤ wS w ts
  | .error (c, p) => 1 ≤ c ∧ c ≤ 6 ∧ p ≤ s.length ∧ (200 < s.length → c = 4)
theorem parse_out (v : Pc → Nat) (w : Tok → Nat) (hw : Wt v w) {s : List UInt8} {sh : Nat} (hsh : sh < 3) {R} (h : parseF s sh = some R) : ParOut v w s sh R := by
  unfold parseF at h
  by_cases hl : 200 < s.length
  · rw [if_pos hl] at h; injection h with h; rw [← h]; exact ⟨by omega, by omega, Nat.zero_le _, fun _ => rfl⟩
  rw [if_neg hl] at h
  cases hx : lexAll s with
  | error i =>
    rw [hx] at h
    injection h with h
    rw [← h]
    have := lex_at _ _ _ _ hx
    exact ⟨by omega, by omega, by omega, fun e => absurd e hl⟩
  | ok ts =>
    rw [hx] at h
    simp only at h
    have hv := lex_valid _ _ _ s.length _ (by omega) hx
    have hfew := lex_few _ _ _ _ hx
    cases hy : exprF s.length sh (12 * ts.length + 12) 0 0 ts with
    | none => rw [hy] at h; cases h
    | some R1 =>
      have h1 := (outs (v := v) (w := w) (E := s.length) hw hsh (12 * ts.length + 12)).expr 0 0 ts R1 (by omega) (by omega) hv hy
      rw [hy] at h
      rcases R1 with ⟨c, p⟩ | ⟨x, r⟩
      · injection h with h; rw [← h]; exact ⟨by have := h1.1; omega, h1.2.1, h1.2.2, fun e => absurd e hl⟩
      · have h1 : Out v w sh 0 0 x r ts := h1
        cases r with
        | nil =>
          injection h with h
          rw [← h]
          have h2 := h1.tall
          have h3 := h1.deep
          have h4 := h1.wt
          simp only [List.length_nil, wS_nil, Nat.add_zero, Nat.zero_add] at h2 h3 h4
          exact ⟨h1.good, by omega, h3, by omega, ts, hx, h4⟩
        | cons t r =>
          injection h with h
          rw [← h]
          exact ⟨by omega, by omega, (hv t (h1.suf.subset (by simp))).1, fun e => absurd e hl⟩
end Go.Proofs.YtffogjhjgmohiaaDoor
