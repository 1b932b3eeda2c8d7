/-
  law 05: the law's fit: walk. Conditions: each theorem's own.
-/
import Derived.Test.YtmbjomeiiihofaaDoorTreeF
import Derived.Test.YtmbjomeiiihofaaDoorTreeH
namespace Go.Proofs.YtmbjomeiiihofaaDoor
open Go.RowKit
set_option linter.unusedVariables false
set_option linter.unusedSimpArgs false

/-- A value's node, a cell's, an area's: their own cells. -/
def litS (k n : Int) (s : ByteArray) : Sc := ⟨1, 0, k, n, s, rf0, rf0, ⟨#[]⟩⟩
def oneS (r : Rf) : Sc := ⟨2, 0, 0, 0, ⟨#[]⟩, r, rf0, ⟨#[]⟩⟩
def areaS (a b : Rf) : Sc := ⟨3, 0, 0, 0, ⟨#[]⟩, a, b, ⟨#[]⟩⟩
theorem litF_eq (k n : Int) (s : ByteArray) : litF k n s = (litS k n s).fl none 0 0 := rfl
theorem oneF_eq (r : Rf) : oneF r = (oneS r).fl none 0 0 := rfl
theorem areaF_eq (a b : Rf) : areaF a b = (areaS a b).fl none 0 0 := rfl
theorem oneS_ok (r : Rf) : (oneS r).ok := ⟨⟨by simp [oneS], by simp [oneS]⟩, by show 0 ≤ _; omega, by show 0 ≤ _; omega⟩
theorem areaS_ok (a b : Rf) : (areaS a b).ok := ⟨⟨by simp [areaS], by simp [areaS]⟩, by show 0 ≤ _; omega, by show 0 ≤ _; omega⟩
theorem litS_ok {k n : Int} {s : ByteArray} (hn : -9223372036854775808 ≤ n ∧ n ≤ 9223372036854775807) (hs : s.size ≤ 9223372036854775807) : (litS k n s).ok := ⟨hn, hs, by show 0 ≤ _; omega⟩
theorem rep_lit {W : World} {B : Nat → Prop} {k n : Int} {s : ByteArray} (hn : -9223372036854775808 ≤ n ∧ n ≤ 9223372036854775807) (hs : s.size ≤ 9223372036854775807) : Rep W B (.mk (litS k n s) []) (litF k n s) := by
  rw [litF_eq]; exact Rep.leaf W B _ (litS_ok hn hs) none 0
theorem rep_one (W : World) (B : Nat → Prop) (r : Rf) : Rep W B (.mk (oneS r) []) (oneF r) := by
  rw [oneF_eq]; exact Rep.leaf W B _ (oneS_ok r) none 0
theorem rep_area (W : World) (B : Nat → Prop) (a b : Rf) : Rep W B (.mk (areaS a b) []) (areaF a b) := by
  rw [areaF_eq]; exact Rep.leaf W B _ (areaS_ok a b) none 0
/-- All that these functions lean on. -/
def EnvQ (w : World) : Prop := Tab w ∧ EnvP w
theorem EnvQ.ext {W w : World} (h : EnvQ W) (hE : Ext W w) : EnvQ w := ⟨h.1.ext hE, h.2.ext hE⟩
theorem num_IF : numOf [73, 70] = 1 := by decide +kernel
theorem fit_size : sizeT (.mk (parS 7 1) [.mk (litS 1 1000000 ⟨#[]⟩) [], .mk (oneS rf0) []]) = 3 := by simp [sizeT, sizeL]
theorem fit_right : rightT 200 (.mk (litS 0 0 ⟨#[]⟩) []) = true := by simp [rightT, rightL, kidsV, litS, vr]; rfl
set_option maxRecDepth 100000 in
set_option maxHeartbeats 4000000 in
theorem fit5 (W : World) (hE : EnvQ W) : Calls Tryd.prog 8 #[] W fun e w' => e = .returned (.bool true) ∧ Ext W w' := by
  have HQ := Lib.hid hE
  clear hE
  go_enter Tryd.func8, Tryd.ntmps8
  go_wp2_with fail
  refine (vnum_any 1000000 _).mono ?_
  rintro e w1 ⟨rfl, hE1⟩
  have HE1 : Hid (Ext W w1) := Lib.hid hE1
  clear hE1
  go_wp2_with fail
  refine (tval_any 1 1000000 ⟨#[]⟩ _).mono ?_
  rintro e w2 ⟨rfl, hE2⟩
  have HE2 := Lib.hid (HE1.out.trans hE2)
  clear hE2 HE1
  go_wp2_with fail
  refine (tcell_any rf0 _).mono ?_
  rintro e w3 ⟨rfl, hE3⟩
  have HE3 := Lib.hid (HE2.out.trans hE3)
  clear hE3 HE2
  go_wp2_with fail
  refine (binary_any 1 (litF 1 1000000 ⟨#[]⟩) (oneF rf0) _ _ (fun _ => True) _ (rep_lit ⟨by omega, by omega⟩ (by show 0 ≤ _; omega)) (rep_one _ _ _) (fun _ _ => trivial)).mono ?_
  rintro e w4 ⟨⟨v, rfl, hR⟩, hE4⟩
  have HE4 := Lib.hid (HE3.out.trans hE4)
  have HR := Lib.hid hR
  clear hE4 HE3 hR
  go_wp2_with fail
  refine (size_any 3 _ v (fun _ => True) _ (Nat.le_of_eq fit_size) (by rw [fit_size]; omega) HR.out).mono ?_
  rintro e w5 ⟨rfl, hE5⟩
  rw [fit_size]
  have HE5 := Lib.hid (HE4.out.trans hE5)
  clear hE5 HE4 HR
  go_wp2_with fail
  refine (number_any ⟨#[73, 70]⟩ _ (HQ.out.ext HE5.out).1).mono ?_
  rintro e w6 ⟨rfl, hE6⟩
  rw [show numOf (⟨#[73, 70]⟩ : ByteArray).data.toList = 1 from num_IF]
  have HE6 := Lib.hid (HE5.out.trans hE6)
  clear hE6 HE5
  go_wp2_with fail
  refine (tval_any 0 0 ⟨#[]⟩ _).mono ?_
  rintro e w7 ⟨rfl, hE7⟩
  have HE7 := Lib.hid (HE6.out.trans hE7)
  clear hE7 HE6
  go_wp2_with fail
  refine (tright_any _ (litF 0 0 ⟨#[]⟩) (fun _ => True) _ (rep_lit ⟨by omega, by omega⟩ (by show 0 ≤ _; omega)) (HQ.out.ext HE7.out).1 (HQ.out.ext HE7.out).2).mono ?_
  rintro e w8 ⟨rfl, hE8⟩
  rw [fit_right]
  have HE8 := Lib.hid (HE7.out.trans hE8)
  clear hE8 HE7
  go_wp2_with fail
  go_ret
  exact ⟨rfl, HE8.out⟩
end Go.Proofs.YtmbjomeiiihofaaDoor
