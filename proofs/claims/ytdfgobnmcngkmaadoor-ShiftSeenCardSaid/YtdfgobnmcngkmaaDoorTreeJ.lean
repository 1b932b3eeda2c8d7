/-
  What the rows of this seat list, and what it gives. Conditions: each theorem's own.
-/
import Derived.Test.YtdfgobnmcngkmaaDoorAddrD
import Derived.Test.YtdfgobnmcngkmaaDoorAddrJ
import Derived.Test.YtdfgobnmcngkmaaDoorTreeI
namespace Go.Proofs.YtdfgobnmcngkmaaDoor
open Go.RowKit Go.ChangeShapes
set_option linter.unusedVariables false

def laidLT : List (String × DataW Unit) := [("math/bits.deBruijn32tab", Rows.laid_math_bits_deBruijn32tab), ("math/bits.deBruijn64tab", Rows.laid_math_bits_deBruijn64tab), ("internal/strconv.uint64pow10", Rows.laid_internal_strconv_uint64pow10), ("strconv.ErrRange", Rows.laid_strconv_ErrRange), ("strconv.ErrSyntax", Rows.laid_strconv_ErrSyntax), ("unicode.White_Space", Rows.laid_unicode_White_Space), ("strings.asciiSpace", Rows.laid_strings_asciiSpace)]
theorem tab_of {W : World} {r : List (String × DataW Unit)} (h : laidMet Tryd.prog (("strings.asciiSpace", Rows.laid_strings_asciiSpace) :: r) W) : Tab W := by
  obtain ⟨ps, ⟨g0, t0, cs0, f0, p0, q0, hg0, ht0, hv0, hd0, _, _⟩, _⟩ := h
  obtain rfl := Option.some.inj (gSpace.symm.trans hg0)
  obtain rfl := Option.some.inj (gSpaceType.symm.trans ht0)
  rw [space_data] at hd0
  unfold Tab Lib.TabIs
  rw [hv0, ← Lib.cells_of_tab Tryd.underlying75 Tryd.underlying5 (by kernel_rfl) (by kernel_rfl) hd0]
theorem env_of_laidT {W : World} (h : laidMetH Tryd.prog laidLT W) (hsh : W.ShapedOpen Tryd.prog) : EnvQ W := by
  rw [MakeChecks.laidMetH_plain _ _ _ (by kernel_rfl)] at h
  exact ⟨tab_of h.tail.tail.tail.tail.tail.tail, max_of_shape hsh, pow_of h.tail.tail, sx_of h.tail.tail.tail.tail, rg_of h.tail.tail.tail⟩
end Go.Proofs.YtdfgobnmcngkmaaDoor
