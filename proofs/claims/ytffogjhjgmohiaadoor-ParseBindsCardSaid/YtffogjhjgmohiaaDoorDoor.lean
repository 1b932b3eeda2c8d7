/-
  What the rows list: the table that strings.Fields reads. Conditions: each theorem's own.
-/
import Derived.Test.YtffogjhjgmohiaaDoorRows
import Derived.Test.YtffogjhjgmohiaaDoorShelf
import Derived.Test.YtffogjhjgmohiaaDoorRegion
import Derived.WalkKit
import Derived.Lib.Hide
import Derived.WalkLawsBesides
import Derived.Outline
import Derived.LaidMore
import Derived.MakeChecks
namespace Go.Proofs.YtffogjhjgmohiaaDoor
open Go.RowKit
set_option linter.unusedVariables false

/-- The table is there. -/
def Tab (w : World) : Prop := Lib.TabIs Tryd.prog w "strings.asciiSpace" .u8 Lib.asciiSpaceTab
theorem gSpace : Tryd.prog.globalNamed "strings.asciiSpace" = some 0 := by kernel_rfl
theorem gSpaceType : (Tryd.prog.globals[0]?).map (·.type) = some 68 := by kernel_rfl
theorem space_data : (Rows.laid_strings_asciiSpace : DataW Unit) = Lib.tabData .u8 Lib.asciiSpaceTab := by kernel_rfl
theorem tab_of_laid {W : World} (h : laidMetH Tryd.prog [("unicode.White_Space", Rows.laid_unicode_White_Space), ("strings.asciiSpace", Rows.laid_strings_asciiSpace)] W) : Tab W := by
  rw [MakeChecks.laidMetH_plain _ _ _ (by kernel_rfl)] at h
  obtain ⟨ps, ⟨g0, t0, cs0, f0, p0, q0, hg0, ht0, hv0, hd0, ⟨g1, t1, cs1, f1, p1, q1, hg1, ht1, hv1, hd1, _, _⟩, _⟩, _⟩ := h
  obtain rfl := Option.some.inj (gSpace.symm.trans hg1)
  obtain rfl := Option.some.inj (gSpaceType.symm.trans ht1)
  rw [space_data] at hd1
  unfold Tab Lib.TabIs
  rw [hv1, ← Lib.cells_of_tab Tryd.underlying68 Tryd.underlying5 (by kernel_rfl) (by kernel_rfl) hd1]
theorem Tab.ext {W w : World} (h : Tab W) (hE : Ext W w) : Tab w := by
  have hlt : 0 < W.heap.size := World.block_lt_of_cell? _ _ (Lib.TabIs.cell h gSpace 0 (by rw [Lib.asciiSpaceTab_length]; omega))
  exact var?_below hE gSpace hlt h
theorem Tab.alloc {W : World} (h : Tab W) (o : Obj) : Tab (W.alloc o) := h.ext ((Below.refl _ _).alloc (Nat.le_refl _) o)
end Go.Proofs.YtffogjhjgmohiaaDoor
