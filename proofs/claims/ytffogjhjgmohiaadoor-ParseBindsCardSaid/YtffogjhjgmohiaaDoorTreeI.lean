/-
  law 05: the law's fit: walk. Conditions: each theorem's own.
-/
import Derived.Test.YtffogjhjgmohiaaDoorTreeE
import Derived.Test.YtffogjhjgmohiaaDoorTreeG
import Derived.Test.YtffogjhjgmohiaaDoorAddrD
import Derived.Test.YtffogjhjgmohiaaDoorAddrJ
namespace Go.Proofs.YtffogjhjgmohiaaDoor
open Go.RowKit
set_option linter.unusedVariables false
set_option linter.unusedSimpArgs false

/-- A value's node, a cell's, an area's: their own cells. -/
def litS (k n : Int) (s : ByteArray) : Sc := ⟨1, 0, k, n, s, rf0, rf0, ⟨#[]⟩⟩
def oneS (r : Rf) : Sc := ⟨2, 0, 0, 0, ⟨#[]⟩, r, rf0, ⟨#[]⟩⟩
def areaS (a b : Rf) : Sc := ⟨3, 0, 0, 0, ⟨#[]⟩, a, b, ⟨#[]⟩⟩
theorem litF_eq (k n : Int) (s : ByteArray) : litF k n s = (litS k n s).fl none 0 0 := rfl
theorem oneF_eq (r : Rf) : oneF r = (oneS r).fl none 0 0 := rfl
theorem areaF_eq (a b : Rf) : areaF a b = (areaS a b).fl none 0 0 := rfl
theorem oneS_ok (r : Rf) : (oneS r).ok := ⟨⟨by simp [oneS], by simp [oneS]⟩, by show 0 ≤ _; omega, by show 0 ≤ _; omega⟩
theorem areaS_ok (a b : Rf) : (areaS a b).ok := ⟨⟨by simp [areaS], by simp [areaS]⟩, by show 0 ≤ _; omega, by show 0 ≤ _; omega⟩
theorem litS_ok {k n : Int} {s : ByteArray} (hn : -9223372036854775808 ≤ n ∧ n ≤ 9223372036854775807) (hs : s.size ≤ 9223372036854775807) : (litS k n s).ok := ⟨hn, hs, by show 0 ≤ _; omega⟩
theorem rep_lit {W : World} {B : Nat → Prop} {k n : Int} {s : ByteArray} (hn : -9223372036854775808 ≤ n ∧ n ≤ 9223372036854775807) (hs : s.size ≤ 9223372036854775807) : Rep W B (.mk (litS k n s) []) (litF k n s) := by
  rw [litF_eq]; exact Rep.leaf W B _ (litS_ok hn hs) none 0
theorem rep_one (W : World) (B : Nat → Prop) (r : Rf) : Rep W B (.mk (oneS r) []) (oneF r) := by
  rw [oneF_eq]; exact Rep.leaf W B _ (oneS_ok r) none 0
theorem rep_area (W : World) (B : Nat → Prop) (a b : Rf) : Rep W B (.mk (areaS a b) []) (areaF a b) := by
  rw [areaF_eq]; exact Rep.leaf W B _ (areaS_ok a b) none 0
/-- All that these functions lean on. -/
def EnvQ (w : World) : Prop := Tab w ∧ EnvP w
theorem EnvQ.ext {W w : World} (h : EnvQ W) (hE : Ext W w) : EnvQ w := ⟨h.1.ext hE, h.2.ext hE⟩
theorem num_IF : numOf [73, 70] = 1 := by decide +kernel
theorem fit_size : sizeT (.mk (parS 7 1) [.mk (litS 1 1000000 ⟨#[]⟩) [], .mk (oneS rf0) []]) = 3 := by simp [sizeT, sizeL]
theorem fit_right : rightT 200 (.mk (litS 0 0 ⟨#[]⟩) []) = true := by simp [rightT, rightL, kidsV, litS, vr]; rfl
open Go.RowKit Go.ChangeShapes
set_option linter.unusedVariables false

def laidLT : List (String × DataW Unit) := [("math/bits.deBruijn32tab", Rows.laid_math_bits_deBruijn32tab), ("math/bits.deBruijn64tab", Rows.laid_math_bits_deBruijn64tab), ("internal/strconv.uint64pow10", Rows.laid_internal_strconv_uint64pow10), ("strconv.ErrRange", Rows.laid_strconv_ErrRange), ("strconv.ErrSyntax", Rows.laid_strconv_ErrSyntax), ("unicode.White_Space", Rows.laid_unicode_White_Space), ("strings.asciiSpace", Rows.laid_strings_asciiSpace)]
theorem tab_of {W : World} {r : List (String × DataW Unit)} (h : laidMet Tryd.prog (("strings.asciiSpace", Rows.laid_strings_asciiSpace) :: r) W) : Tab W := by
  obtain ⟨ps, ⟨g0, t0, cs0, f0, p0, q0, hg0, ht0, hv0, hd0, _, _⟩, _⟩ := h
  obtain rfl := Option.some.inj (gSpace.symm.trans hg0)
  obtain rfl := Option.some.inj (gSpaceType.symm.trans ht0)
  rw [space_data] at hd0
  unfold Tab Lib.TabIs
  rw [hv0, ← Lib.cells_of_tab Tryd.underlying68 Tryd.underlying5 (by kernel_rfl) (by kernel_rfl) hd0]
theorem env_of_laidT {W : World} (h : laidMetH Tryd.prog laidLT W) (hsh : W.ShapedOpen Tryd.prog) : EnvQ W := by
  rw [MakeChecks.laidMetH_plain _ _ _ (by kernel_rfl)] at h
  exact ⟨tab_of h.tail.tail.tail.tail.tail.tail, max_of_shape hsh, pow_of h.tail.tail, sx_of h.tail.tail.tail.tail, rg_of h.tail.tail.tail⟩
end Go.Proofs.YtffogjhjgmohiaaDoor
