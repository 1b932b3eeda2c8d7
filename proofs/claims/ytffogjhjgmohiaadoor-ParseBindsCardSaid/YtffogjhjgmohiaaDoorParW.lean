/-
  law 06: what the parser makes of the law's texts, computed. Conditions: each theorem's own.
-/
import Derived.Test.YtffogjhjgmohiaaDoorParM
namespace Go.Proofs.YtffogjhjgmohiaaDoor
open Go.RowKit
set_option linter.unusedVariables false
set_option linter.unusedSimpArgs false

/-! ### Trees compared -/
def eqRB (a b : Rf) : Bool := a.s == b.s && a.c == b.c && a.r == b.r && a.x == b.x && a.y == b.y
def eqSB (s u : Sc) : Bool := s.k == u.k && s.op == u.op && s.vk == u.vk && s.vn == u.vn && s.vs.data.toList == u.vs.data.toList && eqRB s.A u.A && eqRB s.B u.B && s.nm.data.toList == u.nm.data.toList
mutual
def eqTB : Tr → Tr → Bool
  | .mk s l, .mk u m => eqSB s u && eqLB l m
def eqLB : List Tr → List Tr → Bool
  | [], [] => true
  | t :: l, u :: m => eqTB t u && eqLB l m
  | _, _ => false
end
theorem eqRB_eq {a b : Rf} (h : eqRB a b = true) : a = b := by
  obtain ⟨a1, a2, a3, a4, a5⟩ := a
  obtain ⟨b1, b2, b3, b4, b5⟩ := b
  simp only [eqRB, Bool.and_eq_true, beq_iff_eq] at h
  obtain ⟨⟨⟨⟨rfl, rfl⟩, rfl⟩, rfl⟩, rfl⟩ := h
  rfl
theorem bs_inj {a b : ByteArray} (h : a.data.toList = b.data.toList) : a = b := ByteArray.ext (Array.ext' h)
theorem eqSB_eq {s u : Sc} (h : eqSB s u = true) : s = u := by
  obtain ⟨a1, a2, a3, a4, a5, a6, a7, a8⟩ := s
  obtain ⟨b1, b2, b3, b4, b5, b6, b7, b8⟩ := u
  simp only [eqSB, Bool.and_eq_true, beq_iff_eq] at h
  obtain ⟨⟨⟨⟨⟨⟨⟨rfl, rfl⟩, rfl⟩, rfl⟩, h5⟩, h6⟩, h7⟩, h8⟩ := h
  rw [bs_inj h5, eqRB_eq h6, eqRB_eq h7, bs_inj h8]
mutual
theorem eqTB_eq : ∀ {t u : Tr}, eqTB t u = true → t = u
  | .mk s l, .mk u m, h => by
    simp only [eqTB, Bool.and_eq_true] at h
    rw [eqSB_eq h.1, eqLB_eq h.2]
theorem eqLB_eq : ∀ {l m : List Tr}, eqLB l m = true → l = m
  | [], [], h => rfl
  | t :: l, u :: m, h => by
    simp only [eqLB, Bool.and_eq_true] at h
    rw [eqTB_eq h.1, eqLB_eq h.2]
  | [], _ :: _, h => by simp [eqLB] at h
  | _ :: _, [], h => by simp [eqLB] at h
end
/-! ### ParseBinds -/
def bindsS (a b : Nat) : List UInt8 := 49 :: (opsLit.getD a [] ++ 50 :: (opsLit.getD b [] ++ [51]))
def lvlNo (a : Nat) : Nat := [2, 2, 3, 3, 1, 0, 0, 0, 0, 0, 0].getD a 0
def bindsB (a b : Nat) : Bool := match parseF (bindsS a b) 0 with
  | some (.ok (.mk s [t, u])) => s.k == 7 && (if lvlNo a < lvlNo b then s.op == (a : Int) + 1 && u.s.op == (b : Int) + 1 && t.s.k == 1 else s.op == (b : Int) + 1 && t.s.op == (a : Int) + 1 && u.s.k == 1)
  | _ => false
theorem binds_all : ((List.range 11).all fun a => (List.range 11).all fun b => bindsB a b) = true := by decide +kernel
theorem binds_at {a b : Nat} (ha : a < 11) (hb : b < 11) : ∃ s t u, parseF (bindsS a b) 0 = some (.ok (.mk s [t, u])) ∧ s.k = 7 ∧ (if lvlNo a < lvlNo b then s.op = (a : Int) + 1 ∧ u.s.op = (b : Int) + 1 ∧ t.s.k = 1 else s.op = (b : Int) + 1 ∧ t.s.op = (a : Int) + 1 ∧ u.s.k = 1) := by
  have h := List.all_eq_true.1 (List.all_eq_true.1 binds_all a (List.mem_range.2 ha)) b (List.mem_range.2 hb)
  unfold bindsB at h
  split at h
  · rename_i s t u hp
    refine ⟨s, t, u, hp, ?_⟩
    simp only [Bool.and_eq_true, beq_iff_eq] at h
    refine ⟨h.1, ?_⟩
    have h2 := h.2
    split at h2
    · rename_i hl; rw [if_pos hl]; simpa [and_assoc] using h2
    · rename_i hl; rw [if_neg hl]; simpa [and_assoc] using h2
  · cases h
/-! ### ParseDeep -/
def deepS (n : Nat) (sign : Bool) : List UInt8 := if sign then List.replicate n 45 ++ [49] else List.replicate n 40 ++ 49 :: List.replicate n 41
def deepB (n : Nat) (sign : Bool) : Bool := match parseF (deepS n sign) 0 with
  | some (.ok t) => decide (n ≤ 64) && (if sign then sizeT t == n + 1 else t.s.k == 1)
  | some (.error (c, p)) => decide (64 < n) && c == 3 && p == 65
  | none => false
theorem deep_all : ((List.range 56).all fun n => deepB (n + 40) true && deepB (n + 40) false) = true := by decide +kernel
theorem deep_at {n : Nat} (h1 : 40 ≤ n) (h2 : n ≤ 95) (sign : Bool) : (n ≤ 64 ∧ ∃ t, parseF (deepS n sign) 0 = some (.ok t) ∧ (if sign then sizeT t = n + 1 else t.s.k = 1)) ∨ (64 < n ∧ parseF (deepS n sign) 0 = some (.error (3, 65))) := by
  have h := List.all_eq_true.1 deep_all (n - 40) (List.mem_range.2 (by omega))
  rw [Nat.sub_add_cancel h1] at h
  have h : deepB n sign = true := by
    simp only [Bool.and_eq_true] at h
    cases sign
    · exact h.2
    · exact h.1
  unfold deepB at h
  split at h
  · rename_i t hp
    simp only [Bool.and_eq_true, decide_eq_true_eq] at h
    refine .inl ⟨h.1, t, hp, ?_⟩
    have h2 := h.2
    cases sign <;> simpa using h2
  · rename_i c p hp
    simp only [Bool.and_eq_true, decide_eq_true_eq, beq_iff_eq] at h
    exact .inr ⟨h.1.1, by rw [hp, h.1.2, h.2]⟩
  · cases h
/-! ### ParseBlanks -/
def pieceS : List (List UInt8) := [[49], [65, 49], [83, 85, 77, 40, 65, 49, 58, 66, 50, 41], [34, 120, 34], [40, 50, 41], [45, 51], [73, 70, 40, 84, 82, 85, 69, 44, 49, 44, 50, 41], [84, 82, 85, 69], [35, 78, 47, 65], [82, 65, 84, 69]]
def blankO : List (List UInt8) := [[43], [45], [42], [47], [38], [61], [60, 62]]
def tightS (a b c : Nat) : List UInt8 := pieceS.getD a [] ++ (blankO.getD c [] ++ pieceS.getD b [])
def wideS (a b c : Nat) : List UInt8 := 32 :: (pieceS.getD a [] ++ (32 :: 32 :: (blankO.getD c [] ++ (32 :: (pieceS.getD b [] ++ [32])))))
def blanksB (a b c : Nat) : Bool := match parseF (tightS a b c) 0, parseF (wideS a b c) 0 with
  | some (.ok (.mk s [t, u])), some (.ok x) => s.k == 7 && eqTB (.mk s [t, u]) x
  | _, _ => false
theorem blanks_all : ((List.range 10).all fun a => (List.range 10).all fun b => (List.range 7).all fun c => blanksB a b c) = true := by decide +kernel
theorem blanks_at {a b c : Nat} (ha : a < 10) (hb : b < 10) (hc : c < 7) : ∃ s t u, s.k = 7 ∧ parseF (tightS a b c) 0 = some (.ok (.mk s [t, u])) ∧ parseF (wideS a b c) 0 = some (.ok (.mk s [t, u])) := by
  have h := List.all_eq_true.1 (List.all_eq_true.1 (List.all_eq_true.1 blanks_all a (List.mem_range.2 ha)) b (List.mem_range.2 hb)) c (List.mem_range.2 hc)
  unfold blanksB at h
  split at h
  · rename_i s t u x h1 h2
    simp only [Bool.and_eq_true, beq_iff_eq] at h
    exact ⟨s, t, u, h.1, h1, by rw [h2, eqTB_eq h.2]⟩
  · cases h
/-! ### ParseCalls -/
def onesS : Nat → List UInt8
  | 0 => []
  | 1 => [49]
  | n + 2 => onesS (n + 1) ++ [44, 49]
def callsS (f n : Nat) : List UInt8 := fnN f ++ 40 :: onesS n
def callsB (f n : Nat) : Bool := match parseF (callsS f n ++ [41]) 0 with
  | some (.ok (.mk s l)) => fitsOf ((f : Int) + 1) n && s.k == 8 && s.op == (f : Int) + 1 && l.length == n
  | some (.error (c, p)) => !fitsOf ((f : Int) + 1) n && c == 2 && p == (callsS f n).length + 1
  | none => false
theorem calls_all : ((List.range 54).all fun f => (List.range 11).all fun n => callsB f n) = true := by decide +kernel
theorem calls_at {f n : Nat} (hf : f < 54) (hn : n < 11) : (fitsOf ((f : Int) + 1) n = true ∧ ∃ s l, parseF (callsS f n ++ [41]) 0 = some (.ok (.mk s l)) ∧ s.k = 8 ∧ s.op = (f : Int) + 1 ∧ l.length = n) ∨ (fitsOf ((f : Int) + 1) n = false ∧ parseF (callsS f n ++ [41]) 0 = some (.error (2, (callsS f n).length + 1))) := by
  have h := List.all_eq_true.1 (List.all_eq_true.1 calls_all f (List.mem_range.2 hf)) n (List.mem_range.2 hn)
  unfold callsB at h
  split at h
  · rename_i s l hp
    simp only [Bool.and_eq_true, beq_iff_eq] at h
    exact .inl ⟨h.1.1.1, s, l, hp, h.1.1.2, h.1.2, h.2⟩
  · rename_i c p hp
    simp only [Bool.and_eq_true, Bool.not_eq_true', beq_iff_eq] at h
    exact .inr ⟨h.1.1, by rw [hp, h.1.2, h.2]⟩
  · cases h
end Go.Proofs.YtffogjhjgmohiaaDoor
