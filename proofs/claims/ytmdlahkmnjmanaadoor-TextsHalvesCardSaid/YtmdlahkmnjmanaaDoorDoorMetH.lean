/-
  The door's own heap meets what the rows list (unicode/utf8.acceptRanges, unicode.White_Space, strings.asciiSpace, unicode/utf8.first). Conditions: none.
-/
import Derived.Test.YtmdlahkmnjmanaaDoorDoor
import Derived.Stop.Joined
import Derived.Lay
namespace Go.Proofs.YtmdlahkmnjmanaaDoor
open Go.RowKit
set_option linter.unusedVariables false
def laidLH : List (String × DataW Unit) := [("unicode/utf8.acceptRanges", Rows.laid_unicode_utf8_acceptRanges), ("unicode.White_Space", Rows.laid_unicode_White_Space), ("strings.asciiSpace", Rows.laid_strings_asciiSpace), ("unicode/utf8.first", Rows.laid_unicode_utf8_first)]
theorem tab_of_laidH {W : World} (h : laidMetH Tryd.prog [("unicode/utf8.acceptRanges", Rows.laid_unicode_utf8_acceptRanges), ("unicode.White_Space", Rows.laid_unicode_White_Space), ("strings.asciiSpace", Rows.laid_strings_asciiSpace), ("unicode/utf8.first", Rows.laid_unicode_utf8_first)] W) : Tab W := by
  rw [MakeChecks.laidMetH_plain _ _ _ (by kernel_rfl)] at h
  obtain ⟨ps, ⟨g0, t0, cs0, f0, p0, q0, hg0, ht0, hv0, hd0, ⟨g1, t1, cs1, f1, p1, q1, hg1, ht1, hv1, hd1, ⟨g2, t2, cs2, f2, p2, q2, hg2, ht2, hv2, hd2, _, _⟩, _⟩, _⟩, _⟩ := h
  obtain rfl := Option.some.inj (gSpace.symm.trans hg2)
  obtain rfl := Option.some.inj (gSpaceType.symm.trans ht2)
  rw [space_data] at hd2
  unfold Tab Lib.TabIs
  rw [hv2, ← Lib.cells_of_tab Tryd.underlying88 Tryd.underlying5 (by kernel_rfl) (by kernel_rfl) hd2]
end Go.Proofs.YtmdlahkmnjmanaaDoor
