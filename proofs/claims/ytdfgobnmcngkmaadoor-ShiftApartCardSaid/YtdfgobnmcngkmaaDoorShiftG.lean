/-
  shift: Leaf whole; the law's Edit: walks. Conditions: each theorem's own.
-/
import Derived.Test.YtdfgobnmcngkmaaDoorShiftE
import Derived.Test.YtdfgobnmcngkmaaDoorShiftF
import Derived.Test.YtdfgobnmcngkmaaDoorMask
namespace Go.Proofs.YtdfgobnmcngkmaaDoor
open Go.RowKit
set_option linter.unusedVariables false
set_option linter.unusedSimpArgs false

def Rf.ok (r : Rf) : Prop := (0 ≤ r.c ∧ r.c ≤ 1000) ∧ 0 ≤ r.r ∧ r.r ≤ 1000
theorem leaf_any (s a : Int) (c d : Bool) (n : Fl) (w : World) (hk : n.k = 2 ∨ n.k = 3 ∧ n.A.s = s) (hA : n.A.ok) (hB : n.B.ok) :
    Calls Tryd.prog 17 #[edV s c d a, n.val] w fun e w' => e = .returned (leafV s c d a n).val ∧ Ext w w' := by
  rcases hk with hk | ⟨hk, hs⟩
  · have h := leaf_one s a c d n w hk hA.1 hA.2
    unfold leafV
    rw [if_pos hk]
    exact h
  · have hne : ¬ n.k = 2 := by omega
    unfold leafV
    rw [if_neg hne, if_pos ⟨hk, hs⟩]
    obtain ⟨k, op, vk, vn, vs, ⟨s1, x1, y1, p1, q1⟩, ⟨s2, x2, y2, p2, q2⟩, nm, l, ln, cap⟩ := n
    obtain ⟨⟨h1, h2⟩, h3, h4⟩ := hA
    obtain ⟨⟨h5, h6⟩, h7, h8⟩ := hB
    simp only at hk hs h1 h2 h3 h4 h5 h6 h7 h8
    subst hk hs
    have key : ∀ lo hi most, 0 ≤ lo ∧ lo ≤ 1000 → 0 ≤ hi ∧ hi ≤ 1000 → 0 ≤ most ∧ most ≤ 1000 → Hid (∀ w, Calls Tryd.prog 38 #[edV s1 c d a, .int .i64 lo, .int .i64 hi, .int .i64 most] w fun e w' =>
        e = .returned (.tuple #[.int .i64 (spX d (oneB d a lo most) (oneB d a hi most) (oneV d a lo) lo hi), .int .i64 (spY d (oneB d a lo most) (oneB d a hi most) (oneV d a hi) lo hi most), .bool (spB d (oneB d a lo most) (oneB d a hi most) (oneV d a lo) (oneV d a hi) lo hi most)]) ∧ Ext w w') := fun lo hi most a1 a2 a3 => Lib.hid fun w => span_any s1 a lo hi most c d w a1 a2 a3
    cases c
    · simp only [Bool.false_eq_true, if_false]
      by_cases hlt : y2 < y1
      · simp only [if_pos hlt, decide_eq_true hlt]
        exact leaf_area_false_true a d op vk vn vs nm s1 x1 x2 s2 y2 y1 p1 q1 p2 q2 l ln cap w _ _ _ (decide_eq_true hlt) (key _ _ _ ⟨h7, h8⟩ ⟨h3, h4⟩ (by omega))
      · simp only [if_neg hlt, decide_eq_false hlt]
        exact leaf_area_false_false a d op vk vn vs nm s1 x1 x2 s2 y1 y2 p1 q1 p2 q2 l ln cap w _ _ _ (decide_eq_false hlt) (key _ _ _ ⟨h3, h4⟩ ⟨h7, h8⟩ (by omega))
    · simp only [if_true]
      by_cases hlt : x2 < x1
      · simp only [if_pos hlt, decide_eq_true hlt]
        exact leaf_area_true_true a d op vk vn vs nm s1 y1 y2 s2 x2 x1 p1 q1 p2 q2 l ln cap w _ _ _ (decide_eq_true hlt) (key _ _ _ ⟨h5, h6⟩ ⟨h1, h2⟩ (by omega))
      · simp only [if_neg hlt, decide_eq_false hlt]
        exact leaf_area_true_false a d op vk vn vs nm s1 y1 y2 s2 x1 x2 p1 q1 p2 q2 l ln cap w _ _ _ (decide_eq_false hlt) (key _ _ _ ⟨h1, h2⟩ ⟨h5, h6⟩ (by omega))
def edS (n : Int) : Int := bits .and .i64 n 1
def edC (n : Int) : Bool := bits .and .i64 n 2 == 2
def edD (n : Int) : Bool := bits .and .i64 n 4 == 4
def edA (n : Int) : Int := bits .and .i64 (n / 8) 7
theorem ed_bd (n : Int) : (0 ≤ edS n ∧ edS n ≤ 1) ∧ 0 ≤ edA n ∧ edA n ≤ 7 := by unfold edS edA; rw [and_i64_1, and_i64_3]; omega
theorem edit_any (n : Int) (w : World) : Calls Tryd.prog 9 #[.int .i64 n] w fun e w' => e = .returned (edV (edS n) (edC n) (edD n) (edA n)) ∧ Ext w w' := by
  have hE := Ext.refl w
  go_enter Tryd.func9, Tryd.ntmps9
  go_wp2_with fail
  refine bodyPost_ret (v := edV (edS n) (edC n) (edD n) (edA n)) (by simp [results, Tryd.results9, go_sem]; exact ⟨rfl, rfl, rfl, rfl⟩) rfl ⟨rfl, ?_⟩
  repeat (first | with_reducible assumption | (with_reducible refine below_set ?_ (by first | omega | (simp only [World.size_alloc]; omega))) | (with_reducible refine below_row ?_ (by first | omega | (simp only [World.size_alloc]; omega))) | (with_reducible refine below_drewN ?_ _) | (with_reducible refine below_drew1 ?_) | (with_reducible refine ext_alloc ?_ _))
end Go.Proofs.YtdfgobnmcngkmaaDoor
