/-
  tree: kids, right: walks. Conditions: each theorem's own.
-/
import Derived.Test.YtdfgobnmcngkmaaDoorTreeD
import Derived.Test.YtdfgobnmcngkmaaDoorTreeB
import Derived.Test.YtdfgobnmcngkmaaDoorVal
namespace Go.Proofs.YtdfgobnmcngkmaaDoor
open Go.RowKit
set_option linter.unusedVariables false
set_option linter.unusedSimpArgs false

noncomputable def kidsV (s : Sc) (n : Nat) : Bool :=
  if s.k = 5 ∨ s.k = 6 then n == 1
  else if s.k = 7 then n == 2 && (decide (1 ≤ s.op) && decide (s.op ≤ 11))
  else if s.k = 8 then fitsOf s.op n
  else if s.k = 1 then n == 0 && vr s.vk s.vn s.vs
  else if s.k = 2 then n == 0 && insV s.A.s s.A.c s.A.r
  else if s.k = 3 then n == 0 && insV s.A.s s.A.c s.A.r && insV s.B.s s.B.c s.B.r && s.A.s == s.B.s
  else if s.k = 4 then n == 0 && isNameV s.nm.data.toList
  else false
set_option maxRecDepth 100000 in
set_option maxHeartbeats 8000000 in
theorem kids_any (s : Sc) (p : Option Addr) (n cap : Nat) (W : World) (ho : s.ok) (hn : n ≤ 1000) (ht : Tab W) (hE : EnvP W) :
    Calls Tryd.prog 40 #[(s.fl p n cap).val] W fun e w' => e = .returned (.bool (kidsV s n)) ∧ Ext W w' := by
  obtain ⟨k, op, vk, vn, vs, ⟨u1, u2, u3, u4, u5⟩, ⟨v1, v2, v3, v4, v5⟩, nm⟩ := s
  obtain ⟨o1, o2, o3⟩ := ho
  obtain ⟨W1, hW1, hE1, hG1, hL1, hS1⟩ := new_blk W #[.int .i64 k, .int .i64 op, .int .i64 vk, .int .i64 vn, .string vs, .int .i64 u1, .int .i64 u2, .int .i64 u3, .bool u4, .bool u5,
    .int .i64 v1, .int .i64 v2, .int .i64 v3, .bool v4, .bool v5, .string nm, .slice p n cap] 33
  have HW1 := Lib.hid hW1
  have HE1 := Lib.hid hE1
  have HT1 := Lib.hid (ht.ext hE1)
  have HV1 := Lib.hid (hE.ext hE1)
  have b1 := ext_blk hG1
  have l1 := ext_lt (blk_lt hG1)
  have hr := Ext.refl W1
  have hn' : (n : Int) ≤ 1000 := by omega
  have O1 := Lib.hid o1
  have O3 := Lib.hid o3
  clear hW1 hE1 hG1 hL1 hS1 ht hE o1 o2 o3
  change Calls _ _ #[.agg #[.int .i64 k, .int .i64 op, .int .i64 vk, .int .i64 vn, .string vs, .int .i64 u1, .int .i64 u2, .int .i64 u3, .bool u4, .bool u5,
    .int .i64 v1, .int .i64 v2, .int .i64 v3, .bool v4, .bool v5, .string nm, .slice p n cap]] W _
  by_cases k5 : k = 5
  · subst k5
    have HK : Hid (kidsV ⟨5, op, vk, vn, vs, ⟨u1, u2, u3, u4, u5⟩, ⟨v1, v2, v3, v4, v5⟩, nm⟩ n = ((n : Int) == 1)) := Lib.hid (by rw [show kidsV ⟨5, op, vk, vn, vs, ⟨u1, u2, u3, u4, u5⟩, ⟨v1, v2, v3, v4, v5⟩, nm⟩ n = (n == 1) by simp [kidsV], Bool.eq_iff_iff]; simp; omega)
    go_enter Tryd.func40, Tryd.ntmps40
    go_upto_region 1 with (fail)
    rw [HW1.out]
    clear HW1
    go_wp2_with fail
    all_goals go_ret
    all_goals exact ⟨by rw [HK.out]; first | rfl | (simp [*]; done) | (simp [*] <;> omega), HE1.out⟩
  by_cases k6 : k = 6
  · subst k6
    have HK : Hid (kidsV ⟨6, op, vk, vn, vs, ⟨u1, u2, u3, u4, u5⟩, ⟨v1, v2, v3, v4, v5⟩, nm⟩ n = ((n : Int) == 1)) := Lib.hid (by rw [show kidsV ⟨6, op, vk, vn, vs, ⟨u1, u2, u3, u4, u5⟩, ⟨v1, v2, v3, v4, v5⟩, nm⟩ n = (n == 1) by simp [kidsV], Bool.eq_iff_iff]; simp; omega)
    go_enter Tryd.func40, Tryd.ntmps40
    go_upto_region 1 with (fail)
    rw [HW1.out]
    clear HW1
    go_wp2_with fail
    all_goals go_ret
    all_goals exact ⟨by rw [HK.out]; first | rfl | (simp [*]; done) | (simp [*] <;> omega), HE1.out⟩
  by_cases k7 : k = 7
  · subst k7
    have HK : Hid (kidsV ⟨7, op, vk, vn, vs, ⟨u1, u2, u3, u4, u5⟩, ⟨v1, v2, v3, v4, v5⟩, nm⟩ n = (n == 2 && (decide (1 ≤ op) && decide (op ≤ 11)))) := Lib.hid (by simp [kidsV])
    go_enter Tryd.func40, Tryd.ntmps40
    go_upto_region 1 with (fail)
    rw [HW1.out]
    clear HW1
    go_wp2_with fail
    all_goals go_ret
    all_goals exact ⟨by rw [HK.out]; first | rfl | (simp [*]; done) | (simp [*] <;> omega), HE1.out⟩
  by_cases k8 : k = 8
  · subst k8
    have HK : Hid (kidsV ⟨8, op, vk, vn, vs, ⟨u1, u2, u3, u4, u5⟩, ⟨v1, v2, v3, v4, v5⟩, nm⟩ n = (fitsOf op n)) := Lib.hid (by simp [kidsV])
    have e1 : CallE Tryd.prog W1 _ _ _ := fun w' hE => fits_any op n w' (HT1.out.ext hE)
    go_enter Tryd.func40, Tryd.ntmps40
    go_upto_region 1 with (fail)
    rw [HW1.out]
    clear HW1
    go_wp2_with (first | ((with_reducible refine (CallE.at_ (by assumption) (by assumption)).mono ?_); rintro e w' ⟨rfl, hEx⟩))
    all_goals go_ret
    all_goals exact ⟨by rw [HK.out]; first | rfl | (simp [*]; done) | (simp [*] <;> omega), HE1.out.trans (by assumption)⟩
  by_cases k1 : k = 1
  · subst k1
    have HK : Hid (kidsV ⟨1, op, vk, vn, vs, ⟨u1, u2, u3, u4, u5⟩, ⟨v1, v2, v3, v4, v5⟩, nm⟩ n = (n == 0 && vr vk vn vs)) := Lib.hid (by simp [kidsV])
    have e1 : CallE Tryd.prog W1 _ _ _ := fun w' hE => vright_any vk vn vs w' O1.out
    go_enter Tryd.func40, Tryd.ntmps40
    go_upto_region 1 with (fail)
    rw [HW1.out]
    clear HW1
    go_wp2_with (first | ((with_reducible refine (CallE.at_ (by assumption) (by assumption)).mono ?_); rintro e w' ⟨rfl, hEx⟩))
    all_goals go_ret
    all_goals exact ⟨by rw [HK.out]; first | rfl | (simp [*]; done) | (simp [*] <;> omega), HE1.out.trans (by assumption)⟩
  by_cases k2 : k = 2
  · subst k2
    have HK : Hid (kidsV ⟨2, op, vk, vn, vs, ⟨u1, u2, u3, u4, u5⟩, ⟨v1, v2, v3, v4, v5⟩, nm⟩ n = (n == 0 && insV u1 u2 u3)) := Lib.hid (by simp [kidsV])
    have e1 : CallE Tryd.prog W1 _ _ _ := fun w' hE => aright_any u1 u2 u3 w'
    go_enter Tryd.func40, Tryd.ntmps40
    go_upto_region 1 with (fail)
    rw [HW1.out]
    clear HW1
    go_wp2_with (first | ((with_reducible refine (CallE.at_ (by assumption) (by assumption)).mono ?_); rintro e w' ⟨rfl, hEx⟩))
    all_goals go_ret
    all_goals exact ⟨by rw [HK.out]; first | rfl | (simp [*]; done) | (simp [*] <;> omega), HE1.out.trans (by assumption)⟩
  by_cases k3 : k = 3
  · subst k3
    have HK : Hid (kidsV ⟨3, op, vk, vn, vs, ⟨u1, u2, u3, u4, u5⟩, ⟨v1, v2, v3, v4, v5⟩, nm⟩ n = (n == 0 && insV u1 u2 u3 && insV v1 v2 v3 && u1 == v1)) := Lib.hid (by simp [kidsV])
    have e1 : CallE Tryd.prog W1 _ _ _ := fun w' hE => aright_any u1 u2 u3 w'
    have e2 : CallE Tryd.prog W1 _ _ _ := fun w' hE => aright_any v1 v2 v3 w'
    go_enter Tryd.func40, Tryd.ntmps40
    go_upto_region 1 with (fail)
    rw [HW1.out]
    clear HW1
    go_wp2_with (first | ((with_reducible refine (CallE.at_ (by assumption) (by assumption)).mono ?_); rintro e w' ⟨rfl, hEx⟩))
    all_goals go_ret
    all_goals exact ⟨by rw [HK.out]; first | rfl | (simp [*]; done) | (simp [*] <;> omega), HE1.out.trans (by assumption)⟩
  by_cases k4 : k = 4
  · subst k4
    have HK : Hid (kidsV ⟨4, op, vk, vn, vs, ⟨u1, u2, u3, u4, u5⟩, ⟨v1, v2, v3, v4, v5⟩, nm⟩ n = (n == 0 && isNameV nm.data.toList)) := Lib.hid (by simp [kidsV])
    have e1 : CallE Tryd.prog W1 _ _ _ := fun w' hE => isname_any nm w' O3.out (HT1.out.ext hE) (HV1.out.ext hE)
    go_enter Tryd.func40, Tryd.ntmps40
    go_upto_region 1 with (fail)
    rw [HW1.out]
    clear HW1
    go_wp2_with (first | ((with_reducible refine (CallE.at_ (by assumption) (by assumption)).mono ?_); rintro e w' ⟨rfl, hEx⟩))
    all_goals go_ret
    all_goals exact ⟨by rw [HK.out]; first | rfl | (simp [*]; done) | (simp [*] <;> omega), HE1.out.trans (by assumption)⟩
  have HK : Hid (kidsV ⟨k, op, vk, vn, vs, ⟨u1, u2, u3, u4, u5⟩, ⟨v1, v2, v3, v4, v5⟩, nm⟩ n = false) := Lib.hid (by simp [kidsV, *])
  have n5 : (k == 5) = false := by simpa using k5
  have n6 : (k == 6) = false := by simpa using k6
  have n7 : (k == 7) = false := by simpa using k7
  have n8 : (k == 8) = false := by simpa using k8
  have n1 : (k == 1) = false := by simpa using k1
  have n2 : (k == 2) = false := by simpa using k2
  have n3 : (k == 3) = false := by simpa using k3
  have n4 : (k == 4) = false := by simpa using k4
  go_enter Tryd.func40, Tryd.ntmps40
  go_upto_region 1 with (fail)
  rw [HW1.out]
  clear HW1
  go_wp2_with fail
  go_ret
  exact ⟨by rw [HK.out]; rfl, HE1.out⟩
end Go.Proofs.YtdfgobnmcngkmaaDoor
