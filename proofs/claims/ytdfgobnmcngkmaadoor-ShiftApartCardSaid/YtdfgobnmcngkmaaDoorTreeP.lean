/-
  tree: Same: walk. Conditions: each theorem's own.
-/
import Derived.Test.YtdfgobnmcngkmaaDoorTreeG
import Derived.Laws.StructEq
namespace Go.Proofs.YtdfgobnmcngkmaaDoor
open Go.RowKit
set_option linter.unusedVariables false
set_option linter.unusedSimpArgs false

theorem Rf.eta (a : Rf) : a = ⟨a.s, a.c, a.r, a.x, a.y⟩ := rfl
/-- Are two nodes' own cells the same? -/
def eqR (a b : Rf) : Bool := (a.s == b.s && (a.c == b.c && a.r == b.r)) && (a.x == b.x && a.y == b.y)
def eqS (s u : Sc) : Bool := s.k == u.k && (s.op == u.op && ((s.vk == u.vk && (s.vn == u.vn && s.vs.toList == u.vs.toList)) && (eqR s.A u.A && (eqR s.B u.B && s.nm.toList == u.nm.toList))))
mutual
def sameT : Tr → Tr → Bool
  | .mk s l, .mk s' l' => eqS s s' && (l.length == l'.length) && sameL l l'
def sameL : List Tr → List Tr → Bool
  | [], _ => true
  | t :: l, [] => true
  | t :: l, t' :: l' => sameT t t' && sameL l l'
end
theorem sameL_take {l l' : List Tr} {k : Nat} {t t' : Tr} (h : l[k]? = some t) (h' : l'[k]? = some t') : sameL (l.take (k + 1)) (l'.take (k + 1)) = (sameL (l.take k) (l'.take k) && sameT t t') := by
  induction l generalizing l' k with
  | nil => cases h
  | cons u l ih =>
    cases l' with
    | nil => cases h'
    | cons u' l' =>
      cases k with
      | zero => cases h; cases h'; simp [sameL]
      | succ k => simp only [List.take_succ_cons, sameL, ih h h', Bool.and_assoc]
theorem sameL_bad {l l' : List Tr} {k : Nat} {t t' : Tr} (h : l[k]? = some t) (h' : l'[k]? = some t') (hb : sameT t t' = false) : sameL l l' = false := by
  induction l generalizing l' k with
  | nil => cases h
  | cons u l ih =>
    cases l' with
    | nil => cases h'
    | cons u' l' =>
      cases k with
      | zero => cases h; cases h'; simp [sameL, hb]
      | succ k => simp only [sameL, ih h h', Bool.and_false]
theorem eqR_iff (a b : Rf) : eqR a b = true ↔ a = b := by
  obtain ⟨s, c, r, x, y⟩ := a
  obtain ⟨s', c', r', x', y'⟩ := b
  simp [eqR, and_assoc]
theorem bytes_eq (a b : ByteArray) : a.toList = b.toList ↔ a = b := by
  rw [ByteArray.toList_eq, ByteArray.toList_eq]
  obtain ⟨⟨x⟩⟩ := a
  obtain ⟨⟨y⟩⟩ := b
  simp
theorem eqS_iff (s u : Sc) : eqS s u = true ↔ s = u := by
  obtain ⟨k, op, vk, vn, vs, A, B, nm⟩ := s
  obtain ⟨k', op', vk', vn', vs', A', B', nm'⟩ := u
  unfold eqS
  simp only [Bool.and_eq_true, eqR_iff, bytes_eq, beq_iff_eq, Sc.mk.injEq, and_assoc]
mutual
theorem sameT_iff : ∀ (t u : Tr), sameT t u = true ↔ t = u
  | .mk s l, .mk s' l' => by
    simp only [sameT, Bool.and_eq_true, beq_iff_eq, eqS_iff, Tr.mk.injEq]
    constructor
    · rintro ⟨⟨rfl, h⟩, h2⟩
      exact ⟨rfl, (sameL_iff l l' h).1 h2⟩
    · rintro ⟨rfl, rfl⟩
      exact ⟨⟨rfl, rfl⟩, (sameL_iff l l rfl).2 rfl⟩
theorem sameL_iff : ∀ (l l' : List Tr), l.length = l'.length → (sameL l l' = true ↔ l = l')
  | [], l', h => by
    cases l' with
    | nil => simp [sameL]
    | cons u l' => cases h
  | t :: l, l', h => by
    cases l' with
    | nil => cases h
    | cons u l' =>
      simp only [sameL, Bool.and_eq_true, List.cons.injEq]
      rw [sameT_iff t u, sameL_iff l l' (by simpa using h)]
end
theorem sameT_comm (t u : Tr) : sameT t u = sameT u t := by
  rw [Bool.eq_iff_iff, sameT_iff, sameT_iff]
  exact eq_comm
theorem sameT_self (t : Tr) : sameT t t = true := (sameT_iff t t).2 rfl
theorem neq_val (k n k' n' : Int) (s s' : ByteArray) (w : World) : Sem.run Tryd.prog (binOp .neq 26 (.agg #[.int .i64 k, .int .i64 n, .string s]) (.agg #[.int .i64 k', .int .i64 n', .string s'])) w = .ok (.bool (!(k == k' && (n == n' && s.toList == s'.toList)))) w := by
  by_cases h1 : k = k' <;> by_cases h2 : n = n' <;> by_cases h3 : s.toList = s'.toList <;> simp [go_sem, beq_toListBytes, *]
set_option maxHeartbeats 4000000 in
theorem neq_refw (s c r s' c' r' : Int) (x y x' y' : Bool) (w : World) : Sem.run Tryd.prog (binOp .neq 30 (.agg #[.int .i64 s, .int .i64 c, .int .i64 r, .bool x, .bool y]) (.agg #[.int .i64 s', .int .i64 c', .int .i64 r', .bool x', .bool y'])) w = .ok (.bool (!(eqR ⟨s, c, r, x, y⟩ ⟨s', c', r', x', y'⟩))) w := by
  unfold eqR
  by_cases h1 : s = s' <;> by_cases h2 : c = c' <;> by_cases h3 : r = r' <;> cases x <;> cases x' <;> cases y <;> cases y' <;> simp [go_sem, *]
end Go.Proofs.YtdfgobnmcngkmaaDoor
