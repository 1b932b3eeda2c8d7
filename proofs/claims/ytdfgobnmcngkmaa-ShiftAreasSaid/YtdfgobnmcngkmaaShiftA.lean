/-
  shift: one, the closure inside: walks. Conditions: each theorem's own.
-/
import Derived.Test.YtdfgobnmcngkmaaBlocks
import Derived.Test.YtdfgobnmcngkmaaRows
import Derived.WalkKit
import Derived.Lib.Hide
import Derived.Outline
import Derived.Deep.DeepCutAuto
import Derived.BigQuiet
import Derived.OwnWalk
import Derived.Below
namespace Go.Proofs.Ytdfgobnmcngkmaa
open Go.RowKit
set_option linter.unusedVariables false
set_option linter.unusedSimpArgs false

/-- Where a place is then, and whether it stays. -/
def oneV (del : Bool) (a x : Int) : Int := if x < a then x else if del then x - 1 else x + 1
def oneB (del : Bool) (a x most : Int) : Bool := if x < a then true else if del then decide (a < x) else decide (x + 1 < most)
abbrev edV (s : Int) (c d : Bool) (a : Int) : Value := .agg #[.int .i64 s, .bool c, .bool d, .int .i64 a]
theorem one_any (s a x most : Int) (c d : Bool) (w : World) (hx : 0 ≤ x ∧ x ≤ 1000) :
    Calls Try.prog 14 #[edV s c d a, .int .i64 x, .int .i64 most] w fun e w' => e = .returned (.tuple #[.int .i64 (oneV d a x), .bool (oneB d a x most)]) ∧ Ext w w' := by
  obtain ⟨h1, h2⟩ := hx
  go_enter Try.func14, Try.ntmps14
  go_wp2_with fail
  · refine bodyPost_ret (v := .tuple #[.int .i64 (oneV d a x), .bool (oneB d a x most)]) ?_ rfl ⟨rfl, below_alloc1 _ _⟩
    unfold oneV oneB; simp_all [results, Try.results14, go_sem]
  · go_wp2_with fail
    refine bodyPost_ret (v := .tuple #[.int .i64 (oneV d a x), .bool (oneB d a x most)]) ?_ rfl ⟨rfl, below_alloc1 _ _⟩
    unfold oneV oneB; simp_all [results, Try.results14, go_sem]
    exact ⟨fun h => by omega, fun h => by omega⟩
  · go_quiet (fail)
    go_wp2_with fail
    refine bodyPost_ret (v := .tuple #[.int .i64 (oneV d a x), .bool (oneB d a x most)]) ?_ rfl ⟨rfl, below_drewN (below_alloc1 _ _) _⟩
    unfold oneV oneB; simp_all [results, Try.results14, go_sem]
    try exact ⟨fun h => by omega, fun h => by omega⟩
/-- Inside the sheets. -/
def insV (s c r : Int) : Bool := decide (0 ≤ s) && decide (s < 3) && decide (0 ≤ c) && decide (c < 26) && decide (0 ≤ r) && decide (r < 99)
abbrev ceV (s c r : Int) : Value := .agg #[.int .i64 s, .int .i64 c, .int .i64 r]
set_option maxHeartbeats 1000000 in
theorem ins_any (s c r : Int) (w : World) :
    Calls Try.prog 8 #[ceV s c r] w fun e w' => e = .returned (.bool (insV s c r)) ∧ Ext w w' := by
  go_enter Try.func8, Try.ntmps8
  go_wp2_with fail
  all_goals go_ret
  all_goals refine ⟨?_, below_alloc1 _ _⟩
  all_goals unfold insV
  all_goals simp_all
  all_goals try (intros; omega)
end Go.Proofs.Ytdfgobnmcngkmaa
