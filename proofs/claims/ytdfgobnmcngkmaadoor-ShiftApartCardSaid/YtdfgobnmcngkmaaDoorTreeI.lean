/-
  law 05: the law's fit: walk. Conditions: each theorem's own.
-/
import Derived.Test.YtdfgobnmcngkmaaDoorTreeF
import Derived.Test.YtdfgobnmcngkmaaDoorTreeH
namespace Go.Proofs.YtdfgobnmcngkmaaDoor
open Go.RowKit
set_option linter.unusedVariables false
set_option linter.unusedSimpArgs false

/-- A value's node, a cell's, an area's: their own cells. -/
def litS (k n : Int) (s : ByteArray) : Sc := ⟨1, 0, k, n, s, rf0, rf0, ⟨#[]⟩⟩
def oneS (r : Rf) : Sc := ⟨2, 0, 0, 0, ⟨#[]⟩, r, rf0, ⟨#[]⟩⟩
def areaS (a b : Rf) : Sc := ⟨3, 0, 0, 0, ⟨#[]⟩, a, b, ⟨#[]⟩⟩
theorem litF_eq (k n : Int) (s : ByteArray) : litF k n s = (litS k n s).fl none 0 0 := rfl
theorem oneF_eq (r : Rf) : oneF r = (oneS r).fl none 0 0 := rfl
theorem areaF_eq (a b : Rf) : areaF a b = (areaS a b).fl none 0 0 := rfl
theorem oneS_ok (r : Rf) : (oneS r).ok := ⟨⟨by simp [oneS], by simp [oneS]⟩, by show 0 ≤ _; omega, by show 0 ≤ _; omega⟩
theorem areaS_ok (a b : Rf) : (areaS a b).ok := ⟨⟨by simp [areaS], by simp [areaS]⟩, by show 0 ≤ _; omega, by show 0 ≤ _; omega⟩
theorem litS_ok {k n : Int} {s : ByteArray} (hn : -9223372036854775808 ≤ n ∧ n ≤ 9223372036854775807) (hs : s.size ≤ 9223372036854775807) : (litS k n s).ok := ⟨hn, hs, by show 0 ≤ _; omega⟩
theorem rep_lit {W : World} {B : Nat → Prop} {k n : Int} {s : ByteArray} (hn : -9223372036854775808 ≤ n ∧ n ≤ 9223372036854775807) (hs : s.size ≤ 9223372036854775807) : Rep W B (.mk (litS k n s) []) (litF k n s) := by
  rw [litF_eq]; exact Rep.leaf W B _ (litS_ok hn hs) none 0
theorem rep_one (W : World) (B : Nat → Prop) (r : Rf) : Rep W B (.mk (oneS r) []) (oneF r) := by
  rw [oneF_eq]; exact Rep.leaf W B _ (oneS_ok r) none 0
theorem rep_area (W : World) (B : Nat → Prop) (a b : Rf) : Rep W B (.mk (areaS a b) []) (areaF a b) := by
  rw [areaF_eq]; exact Rep.leaf W B _ (areaS_ok a b) none 0
/-- All that these functions lean on. -/
def EnvQ (w : World) : Prop := Tab w ∧ EnvP w
theorem EnvQ.ext {W w : World} (h : EnvQ W) (hE : Ext W w) : EnvQ w := ⟨h.1.ext hE, h.2.ext hE⟩
theorem num_IF : numOf [73, 70] = 1 := by decide +kernel
theorem fit_size : sizeT (.mk (parS 7 1) [.mk (litS 1 1000000 ⟨#[]⟩) [], .mk (oneS rf0) []]) = 3 := by simp [sizeT, sizeL]
theorem fit_right : rightT 200 (.mk (litS 0 0 ⟨#[]⟩) []) = true := by simp [rightT, rightL, kidsV, litS, vr]; rfl
end Go.Proofs.YtdfgobnmcngkmaaDoor
