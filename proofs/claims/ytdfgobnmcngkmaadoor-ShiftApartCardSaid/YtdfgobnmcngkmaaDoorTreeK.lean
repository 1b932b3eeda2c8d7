/-
  Seeds of formulas: what they are made of; law 05's ref: walk. Conditions: each theorem's own.
-/
import Derived.Test.YtdfgobnmcngkmaaDoorTreeI
import Derived.Test.YtdfgobnmcngkmaaDoorMask
namespace Go.Proofs.YtdfgobnmcngkmaaDoor
open Go.RowKit
set_option linter.unusedVariables false
set_option linter.unusedSimpArgs false

/-- A cell near the first one. -/
def Rf.small (r : Rf) : Prop := (0 ≤ r.s ∧ r.s ≤ 1) ∧ (0 ≤ r.c ∧ r.c ≤ 3) ∧ 0 ≤ r.r ∧ r.r ≤ 3
theorem small_mk {s : Int} {c r : Nat} {x y : Bool} (hs : 0 ≤ s ∧ s ≤ 1) (hc : c < 4) (hr : r < 4) : Rf.small ⟨s, c, r, x, y⟩ := ⟨hs, ⟨by show (0 : Int) ≤ (c : Int); omega, by show (c : Int) ≤ 3; omega⟩, by show (0 : Int) ≤ (r : Int); omega, by show (r : Int) ≤ 3; omega⟩
theorem tdiv_nat (n m : Nat) : (n : Int).tdiv (m : Int) = ((n / m : Nat) : Int) := by rw [Int.tdiv_eq_ediv_of_nonneg (by omega)]; rfl
theorem tmod_nat (n m : Nat) : (n : Int).tmod (m : Int) = ((n % m : Nat) : Int) := by rw [Int.tmod_eq_emod_of_nonneg (by omega)]; rfl
theorem and1 (n : Nat) : bits .and .i64 (n : Int) 1 = ((n % 2 : Nat) : Int) := by have := and_i64 (n : Int) 1 (by omega); simpa using this
theorem and3 (n : Nat) : bits .and .i64 (n : Int) 3 = ((n % 4 : Nat) : Int) := by have := and_i64 (n : Int) 2 (by omega); simpa using this
set_option maxRecDepth 100000 in
set_option maxHeartbeats 4000000 in
theorem ref_core (N K b2 : Int) (m2 m4 m5 q4 : Nat) (x y big four : Bool) (W : World) (hc : m4 < 4) (hr : m5 < 4)
    (a1 : bits .and .i64 N 1 = (m2 : Int)) (a2 : bits .and .i64 N 2 = b2) (a3 : bits .and .i64 N 3 = (m4 : Int)) (a4 : bits .and .i64 (q4 : Int) 3 = (m5 : Int))
    (hq : N / 4 = (q4 : Int)) (hq' : N.tdiv 4 = (q4 : Int)) (hw : wrap64 (q4 : Int) = (q4 : Int)) (hx : ((m2 : Int) == 1) = x) (hy : (b2 == 2) = y) (hk : (K == 4) = four) (hb : decide (11 < N) = big) :
    Calls Tryd.prog 25 #[.int .i64 N, .int .i64 K] W fun e w' => (∃ r : Rf, e = .returned r.val ∧ r.small ∧ (K ≠ 4 → r.s = 0)) ∧ Ext W w' := by
  have HC := Lib.hid hc
  have HR := Lib.hid hr
  have hE := Ext.refl W
  clear hc hr
  cases four
  · cases y
    · go_enter Tryd.func25, Tryd.ntmps25
      go_wp2_with fail
      refine bodyPost_ret (v := .agg #[.int .i64 0, .int .i64 (m4 : Int), .int .i64 (m5 : Int), .bool x, .bool false]) (by simp [results, Tryd.results25, go_sem, *]) rfl ⟨⟨⟨0, m4, m5, _, _⟩, rfl, small_mk ⟨by omega, by omega⟩ HC.out HR.out, (fun _ => rfl)⟩, ?_⟩
      repeat (first | with_reducible assumption | (with_reducible refine below_set ?_ (by first | omega | (simp only [World.size_alloc]; omega))) | (with_reducible refine below_row ?_ (by first | omega | (simp only [World.size_alloc]; omega))) | (with_reducible refine below_drewN ?_ _) | (with_reducible refine below_drew1 ?_) | (with_reducible refine ext_alloc ?_ _))
    · go_enter Tryd.func25, Tryd.ntmps25
      go_wp2_with fail
      refine bodyPost_ret (v := .agg #[.int .i64 0, .int .i64 (m4 : Int), .int .i64 (m5 : Int), .bool x, .bool false]) (by simp [results, Tryd.results25, go_sem, *]) rfl ⟨⟨⟨0, m4, m5, _, _⟩, rfl, small_mk ⟨by omega, by omega⟩ HC.out HR.out, (fun _ => rfl)⟩, ?_⟩
      repeat (first | with_reducible assumption | (with_reducible refine below_set ?_ (by first | omega | (simp only [World.size_alloc]; omega))) | (with_reducible refine below_row ?_ (by first | omega | (simp only [World.size_alloc]; omega))) | (with_reducible refine below_drewN ?_ _) | (with_reducible refine below_drew1 ?_) | (with_reducible refine ext_alloc ?_ _))
  · obtain rfl : K = 4 := by simpa using hk
    clear hk
    cases big
    · cases y
      · go_enter Tryd.func25, Tryd.ntmps25
        go_wp2_with fail
        refine bodyPost_ret (v := .agg #[.int .i64 0, .int .i64 (m4 : Int), .int .i64 (m5 : Int), .bool x, .bool false]) (by simp [results, Tryd.results25, go_sem, *]) rfl ⟨⟨⟨0, m4, m5, _, _⟩, rfl, small_mk ⟨by omega, by omega⟩ HC.out HR.out, (fun _ => rfl)⟩, ?_⟩
        repeat (first | with_reducible assumption | (with_reducible refine below_set ?_ (by first | omega | (simp only [World.size_alloc]; omega))) | (with_reducible refine below_row ?_ (by first | omega | (simp only [World.size_alloc]; omega))) | (with_reducible refine below_drewN ?_ _) | (with_reducible refine below_drew1 ?_) | (with_reducible refine ext_alloc ?_ _))
      · go_enter Tryd.func25, Tryd.ntmps25
        go_wp2_with fail
        refine bodyPost_ret (v := .agg #[.int .i64 0, .int .i64 (m4 : Int), .int .i64 (m5 : Int), .bool x, .bool true]) (by simp [results, Tryd.results25, go_sem, *]) rfl ⟨⟨⟨0, m4, m5, _, _⟩, rfl, small_mk ⟨by omega, by omega⟩ HC.out HR.out, (fun _ => rfl)⟩, ?_⟩
        repeat (first | with_reducible assumption | (with_reducible refine below_set ?_ (by first | omega | (simp only [World.size_alloc]; omega))) | (with_reducible refine below_row ?_ (by first | omega | (simp only [World.size_alloc]; omega))) | (with_reducible refine below_drewN ?_ _) | (with_reducible refine below_drew1 ?_) | (with_reducible refine ext_alloc ?_ _))
    · cases y
      · go_enter Tryd.func25, Tryd.ntmps25
        go_wp2_with fail
        refine bodyPost_ret (v := .agg #[.int .i64 1, .int .i64 (m4 : Int), .int .i64 (m5 : Int), .bool x, .bool false]) (by simp [results, Tryd.results25, go_sem, *]) rfl ⟨⟨⟨1, m4, m5, _, _⟩, rfl, small_mk ⟨by omega, by omega⟩ HC.out HR.out, (fun h => absurd rfl h)⟩, ?_⟩
        repeat (first | with_reducible assumption | (with_reducible refine below_set ?_ (by first | omega | (simp only [World.size_alloc]; omega))) | (with_reducible refine below_row ?_ (by first | omega | (simp only [World.size_alloc]; omega))) | (with_reducible refine below_drewN ?_ _) | (with_reducible refine below_drew1 ?_) | (with_reducible refine ext_alloc ?_ _))
      · go_enter Tryd.func25, Tryd.ntmps25
        go_wp2_with fail
        refine bodyPost_ret (v := .agg #[.int .i64 1, .int .i64 (m4 : Int), .int .i64 (m5 : Int), .bool x, .bool true]) (by simp [results, Tryd.results25, go_sem, *]) rfl ⟨⟨⟨1, m4, m5, _, _⟩, rfl, small_mk ⟨by omega, by omega⟩ HC.out HR.out, (fun h => absurd rfl h)⟩, ?_⟩
        repeat (first | with_reducible assumption | (with_reducible refine below_set ?_ (by first | omega | (simp only [World.size_alloc]; omega))) | (with_reducible refine below_row ?_ (by first | omega | (simp only [World.size_alloc]; omega))) | (with_reducible refine below_drewN ?_ _) | (with_reducible refine below_drew1 ?_) | (with_reducible refine ext_alloc ?_ _))
theorem ref_any (n k : Nat) (W : World) (hn : n < 16) :
    Calls Tryd.prog 25 #[.int .i64 (n : Int), .int .i64 (k : Int)] W fun e w' => (∃ r : Rf, e = .returned r.val ∧ r.small ∧ (k ≠ 4 → r.s = 0)) ∧ Ext W w' := by
  refine (ref_core (n : Int) (k : Int) _ (n % 2) (n % 4) (n / 4 % 4) (n / 4) _ _ _ _ W (by omega) (by omega) (and1 n) rfl (and3 n) (and3 (n / 4)) rfl (tdiv_nat n 4) (IntWalk.wrap64_in _ ⟨by omega, by omega⟩) rfl rfl rfl rfl).mono ?_
  rintro e w' ⟨⟨r, he, hs, hk⟩, hE⟩
  exact ⟨⟨r, he, hs, fun h => hk (by omega)⟩, hE⟩
end Go.Proofs.YtdfgobnmcngkmaaDoor
