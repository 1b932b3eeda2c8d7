/-
  show, parse: a formula's text in pieces; what the lexer makes of it; plain words. Conditions: each theorem's own.
-/
import Derived.Test.YtffogjhjgmohiaaDoorParA
namespace Go.Proofs.YtffogjhjgmohiaaDoor
open Go.RowKit
set_option linter.unusedVariables false
set_option linter.unusedSimpArgs false

/-- A piece of a formula's text: the token's kind, what it says, how it stands there. -/
abbrev Pc := Nat × List UInt8 × List UInt8
def wordP (l : List UInt8) : Pc := (3, l, l)
def signP (l : List UInt8) : Pc := (4, l, l)
def escL : List UInt8 → List UInt8
  | [] => []
  | c :: l => if c.toNat == 34 then 34 :: 34 :: escL l else c :: escL l
def numP (n : Nat) : Pc := (1, Num.txtAbs n, Num.txtAbs n)
def textP (s : List UInt8) : Pc := (2, s, 34 :: (escL s ++ [34]))
def errP (n : Nat) : Pc := (5, errLit.getD (n - 1) [], errLit.getD (n - 1) [])
def litP (k n : Int) (s : List UInt8) : List Pc :=
  if k = 0 then [wordP [66, 76, 65, 78, 75], signP [40], signP [41]]
  else if k = 2 then [textP s]
  else if k = 1 then (if n < 0 then [signP [40], signP [45], numP n.natAbs, signP [41]] else [numP n.natAbs])
  else if k = 3 then [wordP (if n = 1 then [84, 82, 85, 69] else [70, 65, 76, 83, 69])]
  else [errP n.toNat]
def refL (r : Rf) (p : Int) : List UInt8 := if r.s = p then bodyL r.x r.y r.c.toNat r.r.toNat else fullL r.s.toNat r.x r.y r.c.toNat r.r.toNat
def lvlOf (op : Int) : Nat := if 6 ≤ op then 0 else if op = 5 then 1 else if op ≤ 2 then 2 else 3
def opL (op : Int) : List UInt8 := opsLit.getD (op.toNat - 1) []
def brk (b : Bool) (l : List Pc) : List Pc := if b then signP [40] :: (l ++ [signP [41]]) else l
def joinP : List (List Pc) → List Pc
  | [] => []
  | x :: l => x ++ l.flatMap (fun y => signP [44] :: y)
mutual
/-- The pieces of a formula, on a sheet, that must bind so much. -/
def pcs (p : Int) : Nat → Tr → List Pc
  | least, .mk s l =>
    if s.k = 1 then litP s.vk s.vn s.vs.data.toList
    else if s.k = 2 then [wordP (refL s.A p)]
    else if s.k = 3 then [wordP (refL s.A p), signP [58], wordP (refL s.B s.B.s)]
    else if s.k = 4 then [wordP s.nm.data.toList]
    else if s.k = 8 then wordP (nameOf s.op) :: signP [40] :: (joinP (pcsL p 0 0 l) ++ [signP [41]])
    else if s.k = 5 then brk (decide (4 < least)) (signP [45] :: (pcsL p 4 4 l).getD 0 [])
    else if s.k = 6 then (pcsL p 5 5 l).getD 0 [] ++ [signP [37]]
    else brk (decide (lvlOf s.op < least)) ((pcsL p (lvlOf s.op) (lvlOf s.op + 1) l).getD 0 [] ++ signP (opL s.op) :: (pcsL p (lvlOf s.op) (lvlOf s.op + 1) l).getD 1 [])
def pcsL (p : Int) : Nat → Nat → List Tr → List (List Pc)
  | _, _, [] => []
  | a, b, t :: l => pcs p a t :: pcsL p b b l
end
mutual
/-- How many brackets, signs ahead and calls it is inside of, at most. -/
def depT : Nat → Tr → Nat
  | least, .mk s l =>
    if s.k = 8 then (depL 0 0 l).foldr (fun d m => max (d + 1) m) 0
    else if s.k = 5 then (depL 4 4 l).getD 0 0 + 1 + (if 4 < least then 1 else 0)
    else if s.k = 6 then (depL 5 5 l).getD 0 0
    else if s.k = 7 then max ((depL (lvlOf s.op) (lvlOf s.op + 1) l).getD 0 0) ((depL (lvlOf s.op) (lvlOf s.op + 1) l).getD 1 0) + (if lvlOf s.op < least then 1 else 0)
    else 0
def depL : Nat → Nat → List Tr → List Nat
  | _, _, [] => []
  | a, b, t :: l => depT a t :: depL b b l
end
/-- A formula that has a text of its own. -/
inductive GT : Tr → Prop
  | lit (k n : Int) (s : ByteArray) (h : vr k n s = true) (h0 : 0 ≤ n) (hn : n ≤ 9223372036854775807) (hs : s.size ≤ 64) : GT (.mk (litS k n s) [])
  | one (r : Rf) (h : insV r.s r.c r.r = true) : GT (.mk (oneS r) [])
  | area (a b : Rf) (h : insV a.s a.c a.r = true) (h' : insV b.s b.c b.r = true) (hs : a.s = b.s) : GT (.mk (areaS a b) [])
  | word (l : List UInt8) (h : nameF l = true) : GT (wordT l)
  | neg (t : Tr) (h : GT t) : GT (.mk (parS 5 0) [t])
  | pct (t : Tr) (h : GT t) : GT (.mk (parS 6 0) [t])
  | bin (op : Int) (t u : Tr) (h : 1 ≤ op ∧ op ≤ 11) (ht : GT t) (hu : GT u) : GT (.mk (parS 7 op) [t, u])
  | call (f : Int) (ts : List Tr) (h : fitsOf f ts.length = true) (ht : ∀ t ∈ ts, GT t) : GT (.mk (parS 8 f) ts)
/-- A formula's text. -/
def src (l : List Pc) : List UInt8 := l.flatMap (·.2.2)
def shT (p : Int) (least : Nat) (t : Tr) : List UInt8 := src (pcs p least t)
theorem src_app (a b : List Pc) : src (a ++ b) = src a ++ src b := by simp [src]
theorem src_cons (q : Pc) (b : List Pc) : src (q :: b) = q.2.2 ++ src b := by simp [src]
/-! ### What the pieces of each kind of node are -/
theorem pcs_lit (p : Int) (v : Nat) (k n : Int) (s : ByteArray) : pcs p v (.mk (litS k n s) []) = litP k n s.data.toList := by simp [pcs, litS]
theorem pcs_one (p : Int) (v : Nat) (r : Rf) : pcs p v (.mk (oneS r) []) = [wordP (refL r p)] := by simp [pcs, oneS]
theorem pcs_area (p : Int) (v : Nat) (a b : Rf) : pcs p v (.mk (areaS a b) []) = [wordP (refL a p), signP [58], wordP (refL b b.s)] := by simp [pcs, areaS]
theorem pcs_word (p : Int) (v : Nat) (l : List UInt8) : pcs p v (wordT l) = [wordP l] := by simp [pcs, wordT, mk_list]
theorem pcs_neg (p : Int) (v : Nat) (t : Tr) : pcs p v (.mk (parS 5 0) [t]) = brk (decide (4 < v)) (signP [45] :: pcs p 4 t) := by simp [pcs, pcsL, parS]
theorem pcs_pct (p : Int) (v : Nat) (t : Tr) : pcs p v (.mk (parS 6 0) [t]) = pcs p 5 t ++ [signP [37]] := by simp [pcs, pcsL, parS]
theorem pcs_bin (p : Int) (v : Nat) (op : Int) (t u : Tr) : pcs p v (.mk (parS 7 op) [t, u]) = brk (decide (lvlOf op < v)) (pcs p (lvlOf op) t ++ signP (opL op) :: pcs p (lvlOf op + 1) u) := by simp [pcs, pcsL, parS]; rfl
theorem pcs_call (p : Int) (v : Nat) (f : Int) (ts : List Tr) : pcs p v (.mk (parS 8 f) ts) = wordP (nameOf f) :: signP [40] :: (joinP (ts.map (pcs p 0)) ++ [signP [41]]) := by
  have h : ∀ l, pcsL p 0 0 l = l.map (pcs p 0) := by
    intro l
    induction l with
    | nil => simp [pcsL]
    | cons t l ih => simp [pcsL, ih]
  simp [pcs, parS, h]
theorem dep_leaf (v : Nat) (s : Sc) (l : List Tr) (h : s.k ≤ 4) : depT v (.mk s l) = 0 := by
  rw [depT, if_neg (by omega), if_neg (by omega), if_neg (by omega), if_neg (by omega)]
theorem dep_neg (v : Nat) (t : Tr) : depT v (.mk (parS 5 0) [t]) = depT 4 t + 1 + (if 4 < v then 1 else 0) := by simp [depT, depL, parS]
theorem dep_pct (v : Nat) (t : Tr) : depT v (.mk (parS 6 0) [t]) = depT 5 t := by simp [depT, depL, parS]
theorem dep_bin (v : Nat) (op : Int) (t u : Tr) : depT v (.mk (parS 7 op) [t, u]) = max (depT (lvlOf op) t) (depT (lvlOf op + 1) u) + (if lvlOf op < v then 1 else 0) := by simp [depT, depL, parS]; rfl
theorem dep_call (v : Nat) (f : Int) (ts : List Tr) : depT v (.mk (parS 8 f) ts) = (ts.map (depT 0)).foldr (fun d m => max (d + 1) m) 0 := by
  have h : ∀ l, depL 0 0 l = l.map (depT 0) := by
    intro l
    induction l with
    | nil => simp [depL]
    | cons t l ih => simp [depL, ih]
  simp [depT, parS, h]
theorem lvlOf_le (op : Int) : lvlOf op ≤ 3 := by unfold lvlOf; split <;> (try split) <;> (try split) <;> omega
/-! ### The lexer at pieces -/
/-- What may stand behind an operand; behind an operator. -/
def FolB (r : List UInt8) : Prop := ∀ c l, r = c :: l → isNum c = false ∧ isWrd c = false ∧ c.toNat ≠ 34
def BegB (r : List UInt8) : Prop := ∀ c l, r = c :: l → c.toNat ≠ 61 ∧ c.toNat ≠ 62
def PcOK (q : Pc) (r : List UInt8) : Prop := (∃ c l, q.2.2 = c :: l ∧ c.toNat ≠ 32) ∧ oneT (q.2.2 ++ r) = some (q.1, q.2.1, q.2.2.length)
def Lx : List Pc → List UInt8 → Prop
  | [], _ => True
  | q :: l, r => PcOK q (src l ++ r) ∧ Lx l r
theorem Lx_app : ∀ {a b : List Pc} {r : List UInt8}, Lx a (src b ++ r) → Lx b r → Lx (a ++ b) r
  | [], b, r, _, h => h
  | q :: a, b, r, h, h' => ⟨by show PcOK q (src (a ++ b) ++ r); rw [src_app, List.append_assoc]; exact h.1, Lx_app h.2 h'⟩
def tk (l : List Pc) : List (Nat × List UInt8) := l.map fun q => (q.1, q.2.1)
def mt (ts : List Tok) : List (Nat × List UInt8) := ts.map fun t => (t.k, t.s)
theorem lex_src : ∀ (l : List Pc) (n i : Nat), Lx l [] → (src l).length < n → ∃ ts, lexF n (src l) i = .ok ts ∧ mt ts = tk l
  | [], n, i, _, h => ⟨[], by cases n <;> rfl, rfl⟩
  | q :: l, n, i, ⟨⟨⟨c, m, hq, h32⟩, h1⟩, h2⟩, h => by
    cases n with
    | zero => omega
    | succ n =>
      rw [src_cons] at h ⊢
      rw [List.append_nil] at h1
      have hlen : 1 ≤ q.2.2.length := by rw [hq]; simp
      obtain ⟨ts, ht, hm⟩ := lex_src l n (i + q.2.2.length) h2 (by simp at h; omega)
      have hc : q.2.2 ++ src l = c :: (m ++ src l) := by rw [hq]; rfl
      refine ⟨⟨q.1, q.2.1, i⟩ :: ts, ?_, by simp only [mt, tk, List.map_cons] at hm ⊢; rw [hm]⟩
      rw [hc, lexF, if_neg (by simpa using h32), ← hc, h1]
      simp only
      rw [List.drop_append_of_le_length (Nat.le_refl _), List.drop_length, List.nil_append, ht]
theorem run_app {P : UInt8 → Bool} : ∀ {l r : List UInt8}, (∀ c ∈ l, P c = true) → (∀ c m, r = c :: m → P c = false) → runN P (l ++ r) = l.length
  | [], r, _, h => by
    cases r with
    | nil => rfl
    | cons c m => simp [runN, h c m rfl]
  | c :: l, r, h, h' => by
    rw [List.cons_append, runN, if_pos (h c (by simp)), run_app (fun d hd => h d (by simp [hd])) h']
    rfl
theorem one_num {l r : List UInt8} (hne : l ≠ []) (hall : ∀ c ∈ l, isNum c = true) (hr : FolB r) : oneT (l ++ r) = some (1, l, l.length) := by
  obtain ⟨c, m, rfl⟩ := List.exists_cons_of_ne_nil hne
  have hrun := run_app (P := isNum) hall (fun d m hd => (hr d m hd).1)
  unfold oneT
  rw [List.cons_append]
  simp only
  rw [if_pos (hall c (by simp)), ← List.cons_append, hrun, List.take_append_of_le_length (Nat.le_refl _), List.take_length]
theorem one_word {l r : List UInt8} {c : UInt8} {m : List UInt8} (hl : l = c :: m) (hn : isNum c = false) (h34 : c.toNat ≠ 34) (h35 : c.toNat ≠ 35) (h33 : c.toNat ≠ 33) (hall : ∀ d ∈ l, isWrd d = true) (hr : FolB r) : oneT (l ++ r) = some (3, l, l.length) := by
  have hrun := run_app (P := isWrd) hall (fun d m hd => (hr d m hd).2.1)
  have hw : (isWrd c && c.toNat != 33) = true := by rw [hall c (by simp [hl])]; simpa using h33
  subst hl
  unfold oneT
  rw [List.cons_append]
  simp only
  rw [if_neg (by simp [hn]), if_neg (by simpa using h34), if_neg (by simpa using h35), if_pos hw, ← List.cons_append, hrun, List.take_append_of_le_length (Nat.le_refl _), List.take_length]
theorem textN_esc : ∀ (s o r : List UInt8) (i : Nat), (∀ c l, r = c :: l → c.toNat ≠ 34) → textN (escL s ++ 34 :: r) false o i = (o ++ s, i + (escL s).length + 1)
  | [], o, r, i, h => by
    cases r with
    | nil => simp [escL, textN]
    | cons c l => simp [escL, textN, h c l rfl]
  | c :: s, o, r, i, h => by
    by_cases hc : c.toNat = 34
    · have : c = 34 := UInt8.toNat.inj hc
      subst this
      have ih := textN_esc s (o ++ [34]) r (i + 2) h
      simp only [escL, hc, beq_self_eq_true, if_true, List.cons_append, textN]
      rw [ih]
      simp; omega
    · have ih := textN_esc s (o ++ [c]) r (i + 1) h
      simp only [escL, beq_iff_eq, hc, if_false, List.cons_append, textN]
      rw [ih]
      simp; omega
theorem one_text {s r : List UInt8} (hr : FolB r) : oneT ((34 :: (escL s ++ [34])) ++ r) = some (2, s, (34 :: (escL s ++ [34])).length) := by
  have h := textN_esc s [] r 1 (fun c l e => (hr c l e).2.2)
  unfold oneT
  rw [List.cons_append]
  simp only
  rw [if_neg (by decide), if_pos (by decide), List.append_assoc, List.singleton_append, h]
  simp; omega
theorem one_err {l r : List UInt8} (h : l ∈ errLit) : oneT (l ++ r) = some (5, l, l.length) := by
  simp only [errLit, List.mem_cons, List.not_mem_nil, or_false] at h
  rcases h with rfl | rfl | rfl | rfl | rfl | rfl | rfl <;> simp [oneT, isNum, isWrd, errLit, List.find?, List.isPrefixOf]
theorem one_sign {l r : List UInt8} (h : l ∈ signLit) (hb : l = [60] ∨ l = [62] → BegB r) : oneT (l ++ r) = some (4, l, l.length) := by
  simp only [signLit, List.mem_cons, List.not_mem_nil, or_false] at h
  have hlt : l = [60] ∨ l = [62] → (∀ c m, r = c :: m → (62 == c) = false ∧ (61 == c) = false) := by
    intro hl c m hr
    obtain ⟨h1, h2⟩ := hb hl c m hr
    constructor
    · rw [beq_eq_false_iff_ne]; rintro rfl; exact h2 rfl
    · rw [beq_eq_false_iff_ne]; rintro rfl; exact h1 rfl
  rcases h with rfl | rfl | rfl | rfl | rfl | rfl | rfl | rfl | rfl | rfl | rfl | rfl | rfl | rfl | rfl | rfl <;> first
    | (simp [oneT, isNum, isWrd, signLit, List.find?, List.isPrefixOf]; done)
    | (cases r with
       | nil => simp [oneT, isNum, isWrd, signLit, List.find?, List.isPrefixOf]
       | cons c m =>
         obtain ⟨h1, h2⟩ := hlt (by simp) c m rfl
         simp [oneT, isNum, isWrd, signLit, List.find?, List.isPrefixOf, h1, h2])
/-! ### The pieces of a formula -/
theorem numP_ok (n : Nat) {r : List UInt8} (hr : FolB r) : PcOK (numP n) r := by
  obtain ⟨c, l, hc, h1, h2⟩ := Num.txtAbs_head n
  refine ⟨⟨c, l, hc, by omega⟩, one_num (by show Num.txtAbs n ≠ []; rw [hc]; simp) (fun d hd => ?_) hr⟩
  have hd : d ∈ Num.txtAbs n := hd
  unfold Num.txtAbs Num.frac at hd
  have hdig : ∀ d : UInt8, 48 ≤ d.toNat ∧ d.toNat ≤ 57 → isNum d = true := fun d hd => by simp [isNum, hd.1, hd.2]
  rcases List.mem_append.1 hd with hd | hd
  · exact hdig d (Num.whole_all n d hd)
  · split at hd
    · cases hd
    · rcases List.mem_cons.1 hd with rfl | hd
      · decide
      · exact hdig d (Num.frs_all n 6 d hd)
theorem textP_ok (s : List UInt8) {r : List UInt8} (hr : FolB r) : PcOK (textP s) r := ⟨⟨34, escL s ++ [34], rfl, by decide⟩, one_text hr⟩
theorem signP_ok {l r : List UInt8} (h : l ∈ signLit) (hb : l = [60] ∨ l = [62] → BegB r) : PcOK (signP l) r := by
  refine ⟨?_, one_sign h hb⟩
  have hall : (signLit.all fun l => match l with | [] => false | c :: _ => c.toNat != 32) = true := by decide
  have := List.all_eq_true.1 hall l h
  cases l with
  | nil => cases this
  | cons c m => exact ⟨c, m, rfl, by simpa using this⟩
theorem wordP_ok {l r : List UInt8} {c : UInt8} {m : List UInt8} (hl : l = c :: m) (hc : (65 ≤ c.toNat ∧ c.toNat ≤ 90) ∨ c.toNat = 36) (hall : ∀ d ∈ l, isWrd d = true) (hr : FolB r) : PcOK (wordP l) r :=
  ⟨⟨c, m, hl, by omega⟩, one_word hl (by simp [isNum]; omega) (by omega) (by omega) (by omega) hall hr⟩
theorem errLit_at {n : Nat} (h : 1 ≤ n ∧ n ≤ 7) : errLit.getD (n - 1) [] ∈ errLit := by
  have hall : ∀ k, k < 7 → errLit.getD k [] ∈ errLit := by decide
  exact hall (n - 1) (by omega)
theorem errP_ok {n : Nat} (h : 1 ≤ n ∧ n ≤ 7) (r : List UInt8) : PcOK (errP n) r := by
  have hm := errLit_at h
  refine ⟨?_, one_err hm⟩
  have hall : (errLit.all fun l => match l with | [] => false | c :: _ => c.toNat != 32) = true := by decide
  have := List.all_eq_true.1 hall _ hm
  show ∃ c l, errLit.getD (n - 1) [] = c :: l ∧ _
  cases hl : errLit.getD (n - 1) [] with
  | nil => rw [hl] at this; cases this
  | cons c m => rw [hl] at this; exact ⟨c, m, rfl, by simpa using this⟩
/-- Words: all their bytes, and the first one. -/
def WordOK (l : List UInt8) : Prop := (∃ c m, l = c :: m ∧ ((65 ≤ c.toNat ∧ c.toNat ≤ 90) ∨ c.toNat = 36)) ∧ ∀ d ∈ l, isWrd d = true
theorem WordOK.pc {l r : List UInt8} (h : WordOK l) (hr : FolB r) : PcOK (wordP l) r := by
  obtain ⟨⟨c, m, hl, hc⟩, ha⟩ := h
  exact wordP_ok hl hc ha hr
theorem d2_wrd {q : Nat} (h : q < 100) : ∀ d ∈ D2 q, isWrd d = true := fun d hd => by
  have := (d2_facts q h).1 d hd
  simp [isWrd, this.1, this.2]
theorem dol_wrd (x : Bool) : ∀ d ∈ dol x, isWrd d = true := fun d hd => by
  cases x
  · cases hd
  · simp [dol] at hd; subst hd; decide
theorem body_word (x y : Bool) {c q : Nat} (hc : c < 26) (hq : q < 99) : WordOK (bodyL x y c q) := by
  have hcb := colB_nat hc
  have hall : ∀ d ∈ bodyL x y c q, isWrd d = true := by
    intro d hd
    unfold bodyL at hd
    rcases List.mem_append.1 hd with hd | hd
    · exact dol_wrd x d hd
    · rcases List.mem_cons.1 hd with rfl | hd
      · simp [isWrd, hcb]; omega
      · rcases List.mem_append.1 hd with hd | hd
        · exact dol_wrd y d hd
        · exact d2_wrd (by omega) d hd
  refine ⟨?_, hall⟩
  cases x
  · exact ⟨_, _, rfl, .inl (by rw [hcb]; omega)⟩
  · exact ⟨36, _, rfl, .inr rfl⟩
theorem full_word (x y : Bool) {s c q : Nat} (hs : s < 3) (hc : c < 26) (hq : q < 99) : WordOK (fullL s x y c q) := by
  have hb := (body_word x y hc hq).2
  refine ⟨⟨83, _, rfl, .inl (by decide)⟩, fun d hd => ?_⟩
  unfold fullL at hd
  rcases List.mem_cons.1 hd with rfl | hd
  · decide
  rcases List.mem_cons.1 hd with rfl | hd
  · have : (UInt8.ofNat (49 + s)).toNat = 49 + s := by simp only [UInt8.toNat_ofNat']; omega
    simp [isWrd, this]; omega
  rcases List.mem_cons.1 hd with rfl | hd
  · decide
  exact hb d hd
theorem ins_nat {r : Rf} (h : insV r.s r.c r.r = true) : (r.s.toNat < 3 ∧ r.c.toNat < 26 ∧ r.r.toNat < 99) ∧ (r.s.toNat : Int) = r.s ∧ (r.c.toNat : Int) = r.c ∧ (r.r.toNat : Int) = r.r := by
  have := ins_bd h
  omega
theorem ref_word {r : Rf} (p : Int) (h : insV r.s r.c r.r = true) : WordOK (refL r p) := by
  obtain ⟨⟨h1, h2, h3⟩, -⟩ := ins_nat h
  unfold refL
  split
  · exact body_word _ _ h2 h3
  · exact full_word _ _ h1 h2 h3
theorem fn_word : ∀ k, k < 54 → WordOK (fnN k) := by
  have hall : ((List.range 54).all fun k => (match fnN k with | [] => false | c :: _ => decide (65 ≤ c.toNat) && decide (c.toNat ≤ 90)) && (fnN k).all isWrd) = true := by decide +kernel
  intro k hk
  have h := List.all_eq_true.1 hall k (List.mem_range.2 hk)
  simp only [Bool.and_eq_true] at h
  refine ⟨?_, fun d hd => List.all_eq_true.1 h.2 d hd⟩
  cases hl : fnN k with
  | nil => rw [hl] at h; exact absurd h.1 (by simp)
  | cons c m =>
    rw [hl] at h
    have h1 := h.1
    simp only [Bool.and_eq_true, decide_eq_true_eq] at h1
    exact ⟨c, m, rfl, .inl h1⟩
theorem fits_range {f : Int} {n : Nat} (h : fitsOf f n = true) : 1 ≤ f ∧ f ≤ 54 := by
  unfold fitsOf at h
  simp only [Bool.and_eq_true, decide_eq_true_eq] at h
  exact h.1
theorem name_word {f : Int} (h : 1 ≤ f ∧ f ≤ 54) : WordOK (nameOf f) := by
  unfold nameOf
  rw [if_pos h]
  exact fn_word _ (by omega)
theorem good_wrd : ∀ (l : List UInt8) (i : Nat), goodFrom i l = true → ∀ d ∈ l, isWrd d = true
  | [], _, _, d, hd => by cases hd
  | c :: l, i, h, d, hd => by
    simp only [goodFrom, Bool.and_eq_true] at h
    rcases List.mem_cons.1 hd with rfl | hd
    · have h1 := h.1
      unfold okB at h1
      unfold isWrd
      simp only [Bool.or_eq_true, Bool.and_eq_true, decide_eq_true_eq, beq_iff_eq] at h1 ⊢
      omega
    · exact good_wrd l (i + 1) h.2 d hd
theorem nm_word {l : List UInt8} (h : nameF l = true) : WordOK l := by
  unfold nameF at h
  simp only [Bool.and_eq_true] at h
  have hg := h.1.2
  refine ⟨?_, good_wrd l 0 hg⟩
  cases l with
  | nil => simp at h
  | cons c m =>
    simp only [goodFrom, Bool.and_eq_true] at hg
    have h1 := hg.1
    unfold okB at h1
    simp only [Bool.or_eq_true, Bool.and_eq_true, decide_eq_true_eq, bne_self_eq_false, Bool.false_and, Bool.or_false] at h1
    exact ⟨c, m, rfl, .inl (by simpa using h1)⟩
/-- How a formula's text begins. -/
def HdB (l : List Pc) : Prop := ∃ q m, l = q :: m ∧ (∃ c r, q.2.2 = c :: r ∧ c.toNat ≠ 61 ∧ c.toNat ≠ 62) ∧ (q.1 = 4 → q.2.1 = [40] ∨ q.2.1 = [45])
theorem HdB.beg {l : List Pc} (h : HdB l) (r : List UInt8) : BegB (src l ++ r) := by
  obtain ⟨q, m, rfl, ⟨c, x, hq, h1, h2⟩, -⟩ := h
  intro d y hd
  rw [src_cons, hq] at hd
  injection hd with hd _
  exact hd ▸ ⟨h1, h2⟩
theorem HdB.app {l : List Pc} (h : HdB l) (r : List Pc) : HdB (l ++ r) := by
  obtain ⟨q, m, rfl, h⟩ := h
  exact ⟨q, m ++ r, rfl, h⟩
theorem hd_word {l : List UInt8} (h : WordOK l) : HdB [wordP l] := by
  obtain ⟨⟨c, m, hl, hc⟩, -⟩ := h
  exact ⟨_, _, rfl, ⟨c, m, hl, by omega, by omega⟩, fun e => by cases e⟩
theorem hd_brk {l : List Pc} (b : Bool) (h : HdB l) : HdB (brk b l) := by
  cases b
  · exact h
  · exact ⟨_, _, rfl, ⟨40, [], rfl, by decide, by decide⟩, fun _ => .inl rfl⟩
theorem vr_cases {k n : Int} {s : ByteArray} (h : vr k n s = true) : (k = 0 ∧ n = 0 ∧ s.size = 0) ∨ (k = 1 ∧ n ≠ -9223372036854775808 ∧ s.size = 0) ∨ (k = 2 ∧ n = 0 ∧ s.size ≤ 64) ∨ (k = 3 ∧ (n = 0 ∨ n = 1) ∧ s.size = 0) ∨ (k = 4 ∧ (1 ≤ n ∧ n ≤ 7) ∧ s.size = 0) := by
  unfold vr at h
  have h := of_decide_eq_true h
  omega
theorem true_word (n : Int) : WordOK (if n = 1 then [84, 82, 85, 69] else [70, 65, 76, 83, 69]) := by
  split
  · exact ⟨⟨84, _, rfl, .inl (by decide)⟩, by decide⟩
  · exact ⟨⟨70, _, rfl, .inl (by decide)⟩, by decide⟩
theorem blank_word : WordOK [66, 76, 65, 78, 75] := ⟨⟨66, _, rfl, .inl (by decide)⟩, by decide⟩
theorem err_head {n : Nat} (h : 1 ≤ n ∧ n ≤ 7) : ∃ r, errLit.getD (n - 1) [] = 35 :: r := by
  have hall : ∀ k, k < 7 → ∃ r, errLit.getD k [] = 35 :: r := by
    intro k hk
    have : k = 0 ∨ k = 1 ∨ k = 2 ∨ k = 3 ∨ k = 4 ∨ k = 5 ∨ k = 6 := by omega
    rcases this with rfl | rfl | rfl | rfl | rfl | rfl | rfl <;> exact ⟨_, rfl⟩
  exact hall (n - 1) (by omega)
theorem hd_lit {k n : Int} {s : ByteArray} (h : vr k n s = true) : HdB (litP k n s.data.toList) := by
  unfold litP
  rcases vr_cases h with ⟨rfl, -⟩ | ⟨rfl, -⟩ | ⟨rfl, -⟩ | ⟨rfl, hn, -⟩ | ⟨rfl, hn, -⟩
  · rw [if_pos rfl]; exact (hd_word blank_word).app _
  · rw [if_neg (by decide), if_neg (by decide), if_pos rfl]
    split
    · exact ⟨_, _, rfl, ⟨40, [], rfl, by decide, by decide⟩, fun _ => .inl rfl⟩
    · obtain ⟨c, l, hc, h1, h2⟩ := Num.txtAbs_head n.natAbs
      exact ⟨_, _, rfl, ⟨c, l, hc, by omega, by omega⟩, fun e => by cases e⟩
  · rw [if_neg (by decide), if_pos rfl]
    exact ⟨_, _, rfl, ⟨34, _, rfl, by decide, by decide⟩, fun e => by cases e⟩
  · rw [if_neg (by decide), if_neg (by decide), if_neg (by decide), if_pos rfl]
    exact hd_word (true_word n)
  · rw [if_neg (by decide), if_neg (by decide), if_neg (by decide), if_neg (by decide)]
    obtain ⟨r, hr⟩ := err_head (n := n.toNat) (by omega)
    exact ⟨_, _, rfl, ⟨35, r, hr, by decide, by decide⟩, fun e => by cases e⟩
theorem gt_head (p : Int) {t : Tr} (h : GT t) : ∀ v, HdB (pcs p v t) := by
  induction h with
  | lit k n s h => intro v; rw [pcs_lit]; exact hd_lit h
  | one r h => intro v; rw [pcs_one]; exact hd_word (ref_word p h)
  | area a b h h' hs => intro v; rw [pcs_area]; exact (hd_word (ref_word p h)).app [_, _]
  | word l h => intro v; rw [pcs_word]; exact hd_word (nm_word h)
  | neg t h ih => intro v; rw [pcs_neg]; exact hd_brk _ ⟨_, _, rfl, ⟨45, [], rfl, by decide, by decide⟩, fun _ => .inr rfl⟩
  | pct t h ih => intro v; rw [pcs_pct]; exact (ih 5).app _
  | bin op t u h ht hu iht ihu => intro v; rw [pcs_bin]; exact hd_brk _ ((iht _).app _)
  | call f ts h ht ih => intro v; rw [pcs_call]; exact (hd_word (name_word (fits_range h))).app _
theorem fol_sign {l : List UInt8} {r : List UInt8} (h : l ∈ signLit) : FolB (l ++ r) := by
  have hall : (signLit.all fun l => match l with | [] => false | c :: _ => !isNum c && !isWrd c && c.toNat != 34) = true := by decide
  have := List.all_eq_true.1 hall l h
  cases l with
  | nil => cases this
  | cons c m =>
    intro d x hd
    injection hd with hd _
    subst hd
    simpa [and_assoc] using this
theorem op_sign {op : Int} (h : 1 ≤ op ∧ op ≤ 11) : opL op ∈ signLit ∧ opL op ∈ opsLit := by
  have hall : ∀ k, k < 11 → opsLit.getD k [] ∈ signLit ∧ opsLit.getD k [] ∈ opsLit := by decide
  exact hall (op.toNat - 1) (by omega)
theorem src_one (q : Pc) : src [q] = q.2.2 := by simp [src]
theorem lx_brk {l : List Pc} {r : List UInt8} (h1 : Lx l r) (h2 : Lx l ([41] ++ r)) (b : Bool) : Lx (brk b l) r := by
  cases b
  · exact h1
  · refine ⟨signP_ok (by decide) (fun e => by rcases e with e | e <;> cases e), Lx_app ?_ ⟨signP_ok (by decide) (fun e => by rcases e with e | e <;> cases e), trivial⟩⟩
    rw [src_one]
    exact h2
/-- **The lexer reads a formula's pieces.** -/
theorem gt_lx (p : Int) {t : Tr} (h : GT t) : ∀ v r, FolB r → Lx (pcs p v t) r := by
  have no1 : ∀ {l : List UInt8} {r : List UInt8}, l ≠ [60] → l ≠ [62] → (l = [60] ∨ l = [62] → BegB r) := fun h1 h2 e => e.elim (fun e => absurd e h1) (fun e => absurd e h2)
  have par : ∀ {r : List UInt8}, FolB ([41] ++ r) := fun {r} => fol_sign (by decide)
  induction h with
  | lit k n s h h0 =>
    intro v r hr
    rw [pcs_lit]
    unfold litP
    rcases vr_cases h with ⟨rfl, -⟩ | ⟨rfl, -⟩ | ⟨rfl, -⟩ | ⟨rfl, hn, -⟩ | ⟨rfl, hn, -⟩
    · rw [if_pos rfl]
      refine ⟨blank_word.pc ?_, signP_ok (by decide) (no1 (by decide) (by decide)), signP_ok (by decide) (no1 (by decide) (by decide)), trivial⟩
      rw [src_cons, List.append_assoc]
      exact fol_sign (by decide)
    · rw [if_neg (by decide), if_neg (by decide), if_pos rfl, if_neg (by omega)]
      exact ⟨numP_ok _ hr, trivial⟩
    · rw [if_neg (by decide), if_pos rfl]
      exact ⟨textP_ok _ hr, trivial⟩
    · rw [if_neg (by decide), if_neg (by decide), if_neg (by decide), if_pos rfl]
      exact ⟨(true_word n).pc hr, trivial⟩
    · rw [if_neg (by decide), if_neg (by decide), if_neg (by decide), if_neg (by decide)]
      exact ⟨errP_ok (by omega) _, trivial⟩
  | one r h => intro v r' hr; rw [pcs_one]; exact ⟨(ref_word p h).pc hr, trivial⟩
  | area a b h h' hs =>
    intro v r hr
    rw [pcs_area]
    refine ⟨(ref_word p h).pc ?_, signP_ok (by decide) (no1 (by decide) (by decide)), (ref_word _ h').pc hr, trivial⟩
    rw [src_cons, List.append_assoc]
    exact fol_sign (by decide)
  | word l h => intro v r hr; rw [pcs_word]; exact ⟨(nm_word h).pc hr, trivial⟩
  | neg t h ih =>
    intro v r hr
    rw [pcs_neg]
    have hh : ∀ r, FolB r → Lx (signP [45] :: pcs p 4 t) r := fun r hr => ⟨signP_ok (by decide) (no1 (by decide) (by decide)), ih 4 r hr⟩
    exact lx_brk (hh r hr) (hh _ par) _
  | pct t h ih =>
    intro v r hr
    rw [pcs_pct]
    refine Lx_app (ih 5 _ ?_) ⟨signP_ok (by decide) (no1 (by decide) (by decide)), trivial⟩
    rw [src_one]
    exact fol_sign (by decide)
  | bin op t u h ht hu iht ihu =>
    intro v r hr
    rw [pcs_bin]
    obtain ⟨hs, -⟩ := op_sign h
    have hh : ∀ r, FolB r → Lx (pcs p (lvlOf op) t ++ signP (opL op) :: pcs p (lvlOf op + 1) u) r := fun r hr => by
      refine Lx_app (iht _ _ ?_) ⟨signP_ok hs (fun _ => (gt_head p hu _).beg _), ihu _ r hr⟩
      rw [src_cons, List.append_assoc]
      exact fol_sign hs
    exact lx_brk (hh r hr) (hh _ par) _
  | call f ts h ht ih =>
    intro v r hr
    rw [pcs_call]
    refine ⟨(name_word (fits_range h)).pc ?_, signP_ok (by decide) (no1 (by decide) (by decide)), Lx_app ?_ ⟨signP_ok (by decide) (no1 (by decide) (by decide)), trivial⟩⟩
    · rw [src_cons, List.append_assoc]
      exact fol_sign (by decide)
    · rw [src_one]
      have hpar : FolB ((signP [41]).2.2 ++ r) := par
      generalize (signP [41]).2.2 ++ r = r1 at hpar
      clear h hr
      have hrest : ∀ l : List Tr, (∀ t ∈ l, t ∈ ts) → Lx ((l.map (pcs p 0)).flatMap (fun y => signP [44] :: y)) r1 ∧ FolB (src ((l.map (pcs p 0)).flatMap (fun y => signP [44] :: y)) ++ r1) := by
        intro l
        induction l with
        | nil => intro _; exact ⟨trivial, hpar⟩
        | cons t l ihl =>
          intro hm
          obtain ⟨h1, h2⟩ := ihl (fun t ht => hm t (by simp [ht]))
          simp only [List.map_cons, List.flatMap_cons]
          refine ⟨⟨signP_ok (by decide) (no1 (by decide) (by decide)), Lx_app (ih t (hm t (by simp)) 0 _ h2) h1⟩, ?_⟩
          rw [List.cons_append, src_cons, List.append_assoc]
          exact fol_sign (by decide)
      cases ts with
      | nil => trivial
      | cons t l =>
        obtain ⟨h1, h2⟩ := hrest l (fun t ht => by simp [ht])
        simp only [List.map_cons, joinP]
        exact Lx_app (ih t (by simp) 0 _ h2) h1
end Go.Proofs.YtffogjhjgmohiaaDoor
