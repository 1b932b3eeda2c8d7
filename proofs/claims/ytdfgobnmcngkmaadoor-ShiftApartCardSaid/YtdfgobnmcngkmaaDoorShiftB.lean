/-
  shift: Cell: walk. Conditions: each theorem's own.
-/
import Derived.Test.YtdfgobnmcngkmaaDoorShiftA
namespace Go.Proofs.YtdfgobnmcngkmaaDoor
open Go.RowKit
set_option linter.unusedVariables false
set_option linter.unusedSimpArgs false

/-- Where a cell is then, and whether it stays. -/
def celC (s : Int) (c d : Bool) (a s' c' : Int) : Int := if s' = s then (if c then oneV d a c' else c') else c'
def celR (s : Int) (c d : Bool) (a s' r' : Int) : Int := if s' = s then (if c then r' else oneV d a r') else r'
def celB (s : Int) (c d : Bool) (a s' c' r' : Int) : Bool := if s' = s then (if c then oneB d a c' 26 else oneB d a r' 99) else true
def celV (s : Int) (c d : Bool) (a s' c' r' : Int) : Value := .tuple #[ceV s' (celC s c d a s' c') (celR s c d a s' r'), .bool (celB s c d a s' c' r')]
theorem celV_off {s s' : Int} (c d : Bool) (a c' r' : Int) (h : s' ≠ s) : celV s c d a s' c' r' = .tuple #[ceV s' c' r', .bool true] := by simp [celV, celC, celR, celB, h]
theorem celV_row (s : Int) (d : Bool) (a c' r' : Int) : celV s false d a s c' r' = .tuple #[ceV s c' (oneV d a r'), .bool (oneB d a r' 99)] := by simp [celV, celC, celR, celB]
theorem celV_col (s : Int) (d : Bool) (a c' r' : Int) : celV s true d a s c' r' = .tuple #[ceV s (oneV d a c') r', .bool (oneB d a c' 26)] := by simp [celV, celC, celR, celB]
set_option maxHeartbeats 1000000 in
theorem cel_any (s a s' c' r' : Int) (c d : Bool) (w : World) (hc : 0 ≤ c' ∧ c' ≤ 1000) (hr : 0 ≤ r' ∧ r' ≤ 1000) :
    Calls Tryd.prog 37 #[edV s c d a, ceV s' c' r'] w fun e w' => e = .returned (celV s c d a s' c' r') ∧ Ext w w' := by
  have HC := Lib.hid hc
  have HR := Lib.hid hr
  clear hc hr
  by_cases h : s' = s
  · subst h
    cases c
    · rw [celV_row]
      go_enter Tryd.func37, Tryd.ntmps37
      go_wp2_with fail
      refine (one_any _ _ _ _ _ _ _ HR.out).mono ?_
      rintro e w1 ⟨rfl, hE⟩
      obtain ⟨gc, gf⟩ := ecell hE; have gh := bheap hE; have hz := Below.size hE; simp only [World.size_alloc] at hz; have hX := (ext_dig (ext_dig (ext_dig hE)))
      go_wp2_with fail
      refine bodyPost_ret (v := .tuple #[ceV s' c' (oneV d a r'), .bool (oneB d a r' 99)]) ?_ rfl ⟨rfl, ?_⟩
      · simp [results, Tryd.results37, go_sem, *]
      · repeat (first | with_reducible assumption | (with_reducible refine below_set ?_ (by first | omega | (simp only [World.size_alloc]; omega))) | (with_reducible refine below_row ?_ (by first | omega | (simp only [World.size_alloc]; omega))) | (with_reducible refine below_drewN ?_ _) | (with_reducible refine below_drew1 ?_) | (with_reducible refine ext_alloc ?_ _))
    · rw [celV_col]
      go_enter Tryd.func37, Tryd.ntmps37
      go_wp2_with fail
      refine (one_any _ _ _ _ _ _ _ HC.out).mono ?_
      rintro e w1 ⟨rfl, hE⟩
      obtain ⟨gc, gf⟩ := ecell hE; have gh := bheap hE; have hz := Below.size hE; simp only [World.size_alloc] at hz; have hX := (ext_dig (ext_dig (ext_dig hE)))
      go_wp2_with fail
      refine bodyPost_ret (v := .tuple #[ceV s' (oneV d a c') r', .bool (oneB d a c' 26)]) ?_ rfl ⟨rfl, ?_⟩
      · simp [results, Tryd.results37, go_sem, *]
      · repeat (first | with_reducible assumption | (with_reducible refine below_set ?_ (by first | omega | (simp only [World.size_alloc]; omega))) | (with_reducible refine below_row ?_ (by first | omega | (simp only [World.size_alloc]; omega))) | (with_reducible refine below_drewN ?_ _) | (with_reducible refine below_drew1 ?_) | (with_reducible refine ext_alloc ?_ _))
  · rw [celV_off c d a c' r' h]
    have h' : (s' != s) = true := by simpa using h
    go_enter Tryd.func37, Tryd.ntmps37
    go_wp2_with fail
    refine bodyPost_ret (v := .tuple #[ceV s' c' r', .bool true]) ?_ rfl ⟨rfl, ?_⟩
    · simp [results, Tryd.results37, go_sem, *]
    · have := Ext.refl w
      repeat (first | with_reducible assumption | (with_reducible refine below_set ?_ (by first | omega | (simp only [World.size_alloc]; omega))) | (with_reducible refine below_row ?_ (by first | omega | (simp only [World.size_alloc]; omega))) | (with_reducible refine below_drewN ?_ _) | (with_reducible refine below_drew1 ?_) | (with_reducible refine ext_alloc ?_ _))
end Go.Proofs.YtdfgobnmcngkmaaDoor
