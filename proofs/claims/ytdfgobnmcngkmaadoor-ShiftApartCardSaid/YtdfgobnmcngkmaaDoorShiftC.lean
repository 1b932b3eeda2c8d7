/-
  shift: span; nodes without parts; Leaf: walks. Conditions: each theorem's own.
-/
import Derived.Test.YtdfgobnmcngkmaaDoorShiftB
namespace Go.Proofs.YtdfgobnmcngkmaaDoor
open Go.RowKit
set_option linter.unusedVariables false
set_option linter.unusedSimpArgs false

/-- Where a stretch is then, from what becomes of its ends. -/
def spC (d ok is : Bool) (a b : Int) : Bool := !ok && !is && (d && a == b || !d)
def spX (d ok is : Bool) (x a b : Int) : Int := if spC d ok is a b then 0 else if !ok && d then a else x
def spY (d ok is : Bool) (y a b most : Int) : Int := if spC d ok is a b then 0 else if !ok && d then y else if !is && d then b - 1 else if !is then most - 1 else y
def spB (d ok is : Bool) (x y a b most : Int) : Bool := if spC d ok is a b then false else decide (spX d ok is x a b ≤ spY d ok is y a b most)
def spV (d ok is : Bool) (x y a b most : Int) : Value := .tuple #[.int .i64 (spX d ok is x a b), .int .i64 (spY d ok is y a b most), .bool (spB d ok is x y a b most)]
theorem ret_is {u v : Value} (h : u = v) : Ending.returned u = Ending.returned v := by rw [h]
set_option maxHeartbeats 4000000 in
theorem span_any (s a x y most : Int) (c d : Bool) (w : World) (hx : 0 ≤ x ∧ x ≤ 1000) (hy : 0 ≤ y ∧ y ≤ 1000) (hm : 0 ≤ most ∧ most ≤ 1000) :
    Calls Tryd.prog 38 #[edV s c d a, .int .i64 x, .int .i64 y, .int .i64 most] w fun e w' =>
      e = .returned (spV d (oneB d a x most) (oneB d a y most) (oneV d a x) (oneV d a y) x y most) ∧ Ext w w' := by
  have c1 := fun w => one_any s a x most c d w hx
  have c2 := fun w => one_any s a y most c d w hy
  obtain ⟨h1, h2⟩ := hx
  obtain ⟨h3, h4⟩ := hy
  obtain ⟨h5, h6⟩ := hm
  generalize oneB d a x most = ok at *
  generalize oneB d a y most = is at *
  generalize oneV d a x = u at *
  generalize oneV d a y = v at *
  have C1 := Lib.hid c1
  have C2 := Lib.hid c2
  clear c1 c2
  have hxy : (x == y) = true ∨ (x == y) = false := by cases (x == y) <;> simp
  rcases hxy with hxy | hxy
  all_goals
    cases ok <;> cases is <;> cases d
    all_goals
      go_enter Tryd.func38, Tryd.ntmps38
      go_wp2_with fail
      refine (C1.out _).mono ?_
      rintro e w1 ⟨rfl, hE⟩
      obtain ⟨gc, gf⟩ := ecell hE; have gh := bheap hE; have hz := Below.size hE; simp only [World.size_alloc] at hz; have hX := (ext_dig hE)
      go_wp2_with fail
      refine (C2.out _).mono ?_
      rintro e w2 ⟨rfl, hE2⟩
      have hE3 := Ext.trans hE hE2
      obtain ⟨gc3, gf3⟩ := ecell hE3; have gh3 := bheap hE3; have hz3 := Below.size hE3; simp only [World.size_alloc] at hz3; have hX3 := (ext_dig hE3)
      go_wp2_with fail
      go_ret3
      refine ⟨ret_is (by simp_all [spV, spX, spY, spB, spC]), hX3⟩
end Go.Proofs.YtdfgobnmcngkmaaDoor
