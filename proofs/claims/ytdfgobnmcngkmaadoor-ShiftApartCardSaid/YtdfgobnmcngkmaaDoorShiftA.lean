/-
  shift: one, the closure inside: walks. Conditions: each theorem's own.
-/
import Derived.Test.YtdfgobnmcngkmaaDoorBlocks
import Derived.Test.YtdfgobnmcngkmaaDoorRows
import Derived.WalkKit
import Derived.Lib.Hide
import Derived.Outline
import Derived.Deep.DeepCutAuto
import Derived.BigQuiet
import Derived.OwnWalk
import Derived.Below
import Derived.Test.YtdfgobnmcngkmaaDoorAddrA
namespace Go.Proofs.YtdfgobnmcngkmaaDoor
open Go.RowKit
set_option linter.unusedVariables false
set_option linter.unusedSimpArgs false

/-- Where a place is then, and whether it stays. -/
def oneV (del : Bool) (a x : Int) : Int := if x < a then x else if del then x - 1 else x + 1
def oneB (del : Bool) (a x most : Int) : Bool := if x < a then true else if del then decide (a < x) else decide (x + 1 < most)
abbrev edV (s : Int) (c d : Bool) (a : Int) : Value := .agg #[.int .i64 s, .bool c, .bool d, .int .i64 a]
theorem one_any (s a x most : Int) (c d : Bool) (w : World) (hx : 0 ≤ x ∧ x ≤ 1000) :
    Calls Tryd.prog 41 #[edV s c d a, .int .i64 x, .int .i64 most] w fun e w' => e = .returned (.tuple #[.int .i64 (oneV d a x), .bool (oneB d a x most)]) ∧ Ext w w' := by
  obtain ⟨h1, h2⟩ := hx
  go_enter Tryd.func41, Tryd.ntmps41
  go_wp2_with fail
  · refine bodyPost_ret (v := .tuple #[.int .i64 (oneV d a x), .bool (oneB d a x most)]) ?_ rfl ⟨rfl, below_alloc1 _ _⟩
    unfold oneV oneB; simp_all [results, Tryd.results41, go_sem]
  · go_wp2_with fail
    refine bodyPost_ret (v := .tuple #[.int .i64 (oneV d a x), .bool (oneB d a x most)]) ?_ rfl ⟨rfl, below_alloc1 _ _⟩
    unfold oneV oneB; simp_all [results, Tryd.results41, go_sem]
    exact ⟨fun h => by omega, fun h => by omega⟩
  · go_quiet (fail)
    go_wp2_with fail
    refine bodyPost_ret (v := .tuple #[.int .i64 (oneV d a x), .bool (oneB d a x most)]) ?_ rfl ⟨rfl, below_drewN (below_alloc1 _ _) _⟩
    unfold oneV oneB; simp_all [results, Tryd.results41, go_sem]
    try exact ⟨fun h => by omega, fun h => by omega⟩

end Go.Proofs.YtdfgobnmcngkmaaDoor
