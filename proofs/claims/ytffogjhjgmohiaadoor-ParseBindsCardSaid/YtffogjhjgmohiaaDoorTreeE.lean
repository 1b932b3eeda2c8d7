/-
  tree: kids, right: walks. Conditions: each theorem's own.
-/
import Derived.Test.YtffogjhjgmohiaaDoorTreeD
import Derived.Test.YtffogjhjgmohiaaDoorTreeB
import Derived.Test.YtffogjhjgmohiaaDoorVal
namespace Go.Proofs.YtffogjhjgmohiaaDoor
open Go.RowKit
set_option linter.unusedVariables false
set_option linter.unusedSimpArgs false

noncomputable def kidsV (s : Sc) (n : Nat) : Bool :=
  if s.k = 5 ∨ s.k = 6 then n == 1
  else if s.k = 7 then n == 2 && (decide (1 ≤ s.op) && decide (s.op ≤ 11))
  else if s.k = 8 then fitsOf s.op n
  else if s.k = 1 then n == 0 && vr s.vk s.vn s.vs
  else if s.k = 2 then n == 0 && insV s.A.s s.A.c s.A.r
  else if s.k = 3 then n == 0 && insV s.A.s s.A.c s.A.r && insV s.B.s s.B.c s.B.r && s.A.s == s.B.s
  else if s.k = 4 then n == 0 && isNameV s.nm.data.toList
  else false
set_option maxRecDepth 100000 in
set_option maxHeartbeats 8000000 in
theorem kids_any (s : Sc) (p : Option Addr) (n cap : Nat) (W : World) (ho : s.ok) (hn : n ≤ 1000) (ht : Tab W) (hE : EnvP W) :
    Calls Tryd.prog 30 #[(s.fl p n cap).val] W fun e w' => e = .returned (.bool (kidsV s n)) ∧ Ext W w' := by
  obtain ⟨k, op, vk, vn, vs, ⟨u1, u2, u3, u4, u5⟩, ⟨v1, v2, v3, v4, v5⟩, nm⟩ := s
  obtain ⟨o1, o2, o3⟩ := ho
  obtain ⟨W1, hW1, hE1, hG1, hL1, hS1⟩ := new_blk W #[.int .i64 k, .int .i64 op, .int .i64 vk, .int .i64 vn, .string vs, .int .i64 u1, .int .i64 u2, .int .i64 u3, .bool u4, .bool u5,
    .int .i64 v1, .int .i64 v2, .int .i64 v3, .bool v4, .bool v5, .string nm, .slice p n cap] 33
  have HW1 := Lib.hid hW1
  have HE1 := Lib.hid hE1
  have HT1 := Lib.hid (ht.ext hE1)
  have HV1 := Lib.hid (hE.ext hE1)
  have b1 := ext_blk hG1
  have l1 := ext_lt (blk_lt hG1)
  have hr := Ext.refl W1
  have hn' : (n : Int) ≤ 1000 := by omega
  have O1 := Lib.hid o1
  have O3 := Lib.hid o3
  clear hW1 hE1 hG1 hL1 hS1 ht hE o1 o2 o3
  change Calls _ _ #[.agg #[.int .i64 k, .int .i64 op, .int .i64 vk, .int .i64 vn, .string vs, .int .i64 u1, .int .i64 u2, .int .i64 u3, .bool u4, .bool u5,
    .int .i64 v1, .int .i64 v2, .int .i64 v3, .bool v4, .bool v5, .string nm, .slice p n cap]] W _
  by_cases k5 : k = 5
  · subst k5
    have HK : Hid (kidsV ⟨5, op, vk, vn, vs, ⟨u1, u2, u3, u4, u5⟩, ⟨v1, v2, v3, v4, v5⟩, nm⟩ n = ((n : Int) == 1)) := Lib.hid (by rw [show kidsV ⟨5, op, vk, vn, vs, ⟨u1, u2, u3, u4, u5⟩, ⟨v1, v2, v3, v4, v5⟩, nm⟩ n = (n == 1) by simp [kidsV], Bool.eq_iff_iff]; simp; omega)
    go_enter Tryd.func30, Tryd.ntmps30
    go_upto_region 1 with (fail)
    rw [HW1.out]
    clear HW1
    go_wp2_with fail
    all_goals go_ret
    all_goals exact ⟨by rw [HK.out]; first | rfl | (simp [*]; done) | (simp [*] <;> omega), HE1.out⟩
  by_cases k6 : k = 6
  · subst k6
    have HK : Hid (kidsV ⟨6, op, vk, vn, vs, ⟨u1, u2, u3, u4, u5⟩, ⟨v1, v2, v3, v4, v5⟩, nm⟩ n = ((n : Int) == 1)) := Lib.hid (by rw [show kidsV ⟨6, op, vk, vn, vs, ⟨u1, u2, u3, u4, u5⟩, ⟨v1, v2, v3, v4, v5⟩, nm⟩ n = (n == 1) by simp [kidsV], Bool.eq_iff_iff]; simp; omega)
    go_enter Tryd.func30, Tryd.ntmps30
    go_upto_region 1 with (fail)
    rw [HW1.out]
    clear HW1
    go_wp2_with fail
    all_goals go_ret
    all_goals exact ⟨by rw [HK.out]; first | rfl | (simp [*]; done) | (simp [*] <;> omega), HE1.out⟩
  by_cases k7 : k = 7
  · subst k7
    have HK : Hid (kidsV ⟨7, op, vk, vn, vs, ⟨u1, u2, u3, u4, u5⟩, ⟨v1, v2, v3, v4, v5⟩, nm⟩ n = (n == 2 && (decide (1 ≤ op) && decide (op ≤ 11)))) := Lib.hid (by simp [kidsV])
    go_enter Tryd.func30, Tryd.ntmps30
    go_upto_region 1 with (fail)
    rw [HW1.out]
    clear HW1
    go_wp2_with fail
    all_goals go_ret
    all_goals exact ⟨by rw [HK.out]; first | rfl | (simp [*]; done) | (simp [*] <;> omega), HE1.out⟩
  by_cases k8 : k = 8
  · subst k8
    have HK : Hid (kidsV ⟨8, op, vk, vn, vs, ⟨u1, u2, u3, u4, u5⟩, ⟨v1, v2, v3, v4, v5⟩, nm⟩ n = (fitsOf op n)) := Lib.hid (by simp [kidsV])
    have e1 : CallE Tryd.prog W1 _ _ _ := fun w' hE => fits_any op n w' (HT1.out.ext hE)
    go_enter Tryd.func30, Tryd.ntmps30
    go_upto_region 1 with (fail)
    rw [HW1.out]
    clear HW1
    go_wp2_with (first | ((with_reducible refine (CallE.at_ (by assumption) (by assumption)).mono ?_); rintro e w' ⟨rfl, hEx⟩))
    all_goals go_ret
    all_goals exact ⟨by rw [HK.out]; first | rfl | (simp [*]; done) | (simp [*] <;> omega), HE1.out.trans (by assumption)⟩
  by_cases k1 : k = 1
  · subst k1
    have HK : Hid (kidsV ⟨1, op, vk, vn, vs, ⟨u1, u2, u3, u4, u5⟩, ⟨v1, v2, v3, v4, v5⟩, nm⟩ n = (n == 0 && vr vk vn vs)) := Lib.hid (by simp [kidsV])
    have e1 : CallE Tryd.prog W1 _ _ _ := fun w' hE => vright_any vk vn vs w' O1.out
    go_enter Tryd.func30, Tryd.ntmps30
    go_upto_region 1 with (fail)
    rw [HW1.out]
    clear HW1
    go_wp2_with (first | ((with_reducible refine (CallE.at_ (by assumption) (by assumption)).mono ?_); rintro e w' ⟨rfl, hEx⟩))
    all_goals go_ret
    all_goals exact ⟨by rw [HK.out]; first | rfl | (simp [*]; done) | (simp [*] <;> omega), HE1.out.trans (by assumption)⟩
  by_cases k2 : k = 2
  · subst k2
    have HK : Hid (kidsV ⟨2, op, vk, vn, vs, ⟨u1, u2, u3, u4, u5⟩, ⟨v1, v2, v3, v4, v5⟩, nm⟩ n = (n == 0 && insV u1 u2 u3)) := Lib.hid (by simp [kidsV])
    have e1 : CallE Tryd.prog W1 _ _ _ := fun w' hE => aright_any u1 u2 u3 w'
    go_enter Tryd.func30, Tryd.ntmps30
    go_upto_region 1 with (fail)
    rw [HW1.out]
    clear HW1
    go_wp2_with (first | ((with_reducible refine (CallE.at_ (by assumption) (by assumption)).mono ?_); rintro e w' ⟨rfl, hEx⟩))
    all_goals go_ret
    all_goals exact ⟨by rw [HK.out]; first | rfl | (simp [*]; done) | (simp [*] <;> omega), HE1.out.trans (by assumption)⟩
  by_cases k3 : k = 3
  · subst k3
    have HK : Hid (kidsV ⟨3, op, vk, vn, vs, ⟨u1, u2, u3, u4, u5⟩, ⟨v1, v2, v3, v4, v5⟩, nm⟩ n = (n == 0 && insV u1 u2 u3 && insV v1 v2 v3 && u1 == v1)) := Lib.hid (by simp [kidsV])
    have e1 : CallE Tryd.prog W1 _ _ _ := fun w' hE => aright_any u1 u2 u3 w'
    have e2 : CallE Tryd.prog W1 _ _ _ := fun w' hE => aright_any v1 v2 v3 w'
    go_enter Tryd.func30, Tryd.ntmps30
    go_upto_region 1 with (fail)
    rw [HW1.out]
    clear HW1
    go_wp2_with (first | ((with_reducible refine (CallE.at_ (by assumption) (by assumption)).mono ?_); rintro e w' ⟨rfl, hEx⟩))
    all_goals go_ret
    all_goals exact ⟨by rw [HK.out]; first | rfl | (simp [*]; done) | (simp [*] <;> omega), HE1.out.trans (by assumption)⟩
  by_cases k4 : k = 4
  · subst k4
    have HK : Hid (kidsV ⟨4, op, vk, vn, vs, ⟨u1, u2, u3, u4, u5⟩, ⟨v1, v2, v3, v4, v5⟩, nm⟩ n = (n == 0 && isNameV nm.data.toList)) := Lib.hid (by simp [kidsV])
    have e1 : CallE Tryd.prog W1 _ _ _ := fun w' hE => isname_any nm w' O3.out (HT1.out.ext hE) (HV1.out.ext hE)
    go_enter Tryd.func30, Tryd.ntmps30
    go_upto_region 1 with (fail)
    rw [HW1.out]
    clear HW1
    go_wp2_with (first | ((with_reducible refine (CallE.at_ (by assumption) (by assumption)).mono ?_); rintro e w' ⟨rfl, hEx⟩))
    all_goals go_ret
    all_goals exact ⟨by rw [HK.out]; first | rfl | (simp [*]; done) | (simp [*] <;> omega), HE1.out.trans (by assumption)⟩
  have HK : Hid (kidsV ⟨k, op, vk, vn, vs, ⟨u1, u2, u3, u4, u5⟩, ⟨v1, v2, v3, v4, v5⟩, nm⟩ n = false) := Lib.hid (by simp [kidsV, *])
  have n5 : (k == 5) = false := by simpa using k5
  have n6 : (k == 6) = false := by simpa using k6
  have n7 : (k == 7) = false := by simpa using k7
  have n8 : (k == 8) = false := by simpa using k8
  have n1 : (k == 1) = false := by simpa using k1
  have n2 : (k == 2) = false := by simpa using k2
  have n3 : (k == 3) = false := by simpa using k3
  have n4 : (k == 4) = false := by simpa using k4
  go_enter Tryd.func30, Tryd.ntmps30
  go_upto_region 1 with (fail)
  rw [HW1.out]
  clear HW1
  go_wp2_with fail
  go_ret
  exact ⟨by rw [HK.out]; rfl, HE1.out⟩
mutual
/-- May it be a formula, so deep at most? -/
noncomputable def rightT (d : Nat) : Tr → Bool
  | .mk s l => match d with
    | 0 => false
    | d + 1 => kidsV s l.length && rightL d l
noncomputable def rightL (d : Nat) : List Tr → Bool
  | [] => true
  | t :: l => rightT d t && rightL d l
end
theorem rightL_append (d : Nat) (l l' : List Tr) : rightL d (l ++ l') = (rightL d l && rightL d l') := by
  induction l with
  | nil => simp [rightL]
  | cons t l ih => simp only [List.cons_append, rightL, ih, Bool.and_assoc]
theorem rightL_take {d : Nat} {l : List Tr} {k : Nat} {t : Tr} (h : l[k]? = some t) : rightL d (l.take (k + 1)) = (rightL d (l.take k) && rightT d t) := by
  rw [List.take_add_one, h, rightL_append]
  simp [rightL]
theorem rightL_bad {d : Nat} {l : List Tr} {k : Nat} {t : Tr} (h : l[k]? = some t) (hb : rightT d t = false) : rightL d l = false := by
  rw [← List.take_append_drop (k + 1) l, rightL_append, rightL_take h, hb]
  simp
theorem Rep.sc {W : World} {B : Nat → Prop} {s : Sc} {l : List Tr} {f : Fl} (h : Rep W B (.mk s l) f) : s.ok := by cases h; assumption
set_option maxRecDepth 100000 in
set_option maxHeartbeats 8000000 in
theorem right_any (m : Nat) : ∀ (t : Tr) (f : Fl) (B : Nat → Prop) (d : Nat) (W : World), sizeT t ≤ m → d ≤ 1000000 → Rep W B t f → Tab W → EnvP W →
    Calls Tryd.prog 22 #[f.val, .int .i64 (d : Int)] W fun e w' => e = .returned (.bool (rightT d t)) ∧ Ext W w' := by
  induction m with
  | zero =>
    rintro ⟨s, l⟩ f B d W h
    simp only [sizeT] at h
    omega
  | succ m ih =>
    rintro t f B d W hsz hd ⟨s, ts, p, cap, fs, ho, hn, hl, hs, hk⟩ htab henv
    have hSZ : sizeT (.mk s ts) = 1 + sizeL ts := by simp only [sizeT]
    rw [hSZ] at hsz
    clear hSZ
    obtain ⟨N, hN⟩ : ∃ N, ts.length = N := ⟨_, rfl⟩
    rw [hN] at hn ⊢
    obtain ⟨W1, hW1, hE1, hG1, hL1, hS1⟩ := new_blk W (s.fl p N cap).cells 33
    have HW1 := Lib.hid hW1
    have HE1 := Lib.hid hE1
    have HK := Lib.hid hk
    have HS := Lib.hid hs
    have HL := Lib.hid hl
    have HSZ := Lib.hid hsz
    have HIH := Lib.hid ih
    have HTAB := Lib.hid htab
    have HENV := Lib.hid henv
    have hG1' : W1.heap[W.heap.size]? = some (.cells #[.int .i64 s.k, .int .i64 s.op, .int .i64 s.vk, .int .i64 s.vn, .string s.vs, .int .i64 s.A.s, .int .i64 s.A.c, .int .i64 s.A.r, .bool s.A.x, .bool s.A.y,
      .int .i64 s.B.s, .int .i64 s.B.c, .int .i64 s.B.r, .bool s.B.x, .bool s.B.y, .string s.nm, .slice p N cap] 33 (0, 0)) := hG1
    have HG1 := Lib.hid hG1
    have HG1' := Lib.hid hG1'
    have hN' : (N : Int) ≤ 1000 := by omega
    have HN := Lib.hid hN
    have HRT : Hid (rightT d (.mk s ts) = (decide (d ≠ 0) && (kidsV s N && rightL (d - 1) ts))) := Lib.hid (by cases d <;> simp [rightT, hN])
    have HKI := Lib.hid (fun w' (hE : Ext W1 w') => kids_any s p N cap w' ho hn (htab.ext (hE1.trans hE)) (henv.ext (hE1.trans hE)))
    have hr := Ext.refl W1
    clear hW1 hE1 hG1 hL1 hS1 hk hs hl hsz ih hG1' ho htab henv
    unfold Fl.val at HKI ⊢
    go_enter Tryd.func22, Tryd.ntmps22
    go_upto_region 1 with (fail)
    rw [HW1.out]
    clear HW1
    by_cases hd0 : d = 0
    · subst hd0
      go_wp2_with fail
      go_ret
      exact ⟨by rw [HRT.out]; rfl, HE1.out⟩
    have hdq : ((d : Int) == 0) = false := by simp; omega
    have hg1 := HG1.out
    go_wp2_with (first | ((with_reducible refine wpl_guard (isLoad 33) ?_ ?_); (· rfl); refine wpl_load_want (t := ?_) (cs := ?_) (fr := ?_) (by rfl) 33 _ rfl rfl ?_ Tryd.underlying33 rfl ?_ ?_; rotate_left 3; (· (first | (with_reducible assumption) | (simp (disch := (first | omega | (simp only [World.size_alloc, World.size_setCell, World.size_drew, size_setRow]; done) | (simp only [World.size_alloc, World.size_setCell, World.size_drew, size_setRow]; omega))) only [hq_at, hq_past, hq_drew, hq_drewN, hq_cell, hq_row, hq_same, rowOf_cells, Option.map_some, *]; rfl) | (simp (disch := (first | omega | (simp only [World.size_alloc, World.size_setCell, World.size_drew, size_setRow]; done) | (simp only [World.size_alloc, World.size_setCell, World.size_drew, size_setRow]; omega))) only [hq_at, hq_past, hq_drew, hq_drewN, hq_cell, hq_row, hq_same, rowOf_cells, Option.map_some, *]))); (· kernel_rfl); (try dsimp only [Act.put, List.setIfInBounds_toArray, List.set_cons_zero, List.set_cons_succ])))
    refine (HKI.out _ hr).mono ?_
    rintro e w2 ⟨rfl, hE2⟩
    obtain ⟨kv, hkv⟩ : ∃ kv, kidsV s N = kv := ⟨_, rfl⟩
    rw [hkv] at HRT ⊢
    clear hkv
    cases kv
    · have HE2 := Lib.hid (HE1.out.trans hE2)
      clear hE2 hg1
      go_wp2_with fail
      go_ret
      exact ⟨by rw [HRT.out]; simp, HE2.out⟩
    have HX2 := Lib.hid hE2
    have hg2 := hE2.blk HG1'.out
    have c16 := cell_of_row w2 W.heap.size 16 _ _ _ hg2
    simp only [List.getElem?_toArray, List.getElem?_cons_zero, List.getElem?_cons_succ] at c16
    have HRT2 : Hid (rightT d (.mk s ts) = rightL (d - 1) ts) := Lib.hid (by rw [HRT.out, decide_eq_true hd0]; simp)
    have hdd : (d : Int) - 1 = ((d - 1 : Nat) : Int) := by omega
    have hd1 : (d : Int) ≤ 1000000 := by omega
    have hd2 : (1 : Int) ≤ (d : Int) := by omega
    obtain ⟨d', hd'⟩ : ∃ d', d - 1 = d' := ⟨_, rfl⟩
    rw [hd'] at hdd HRT2
    have HD' : Hid (d' ≤ 1000000) := Lib.hid (by omega)
    clear hg2 hE2 hg1 HRT HKI hd' hr hd0
    go_wp2_with fail
    go_loopw [6, 17] (fun _ si wr => ∃ k : Nat, k ≤ N ∧ si = .int .i64 (k : Int) ∧ Hid (rightL d' (ts.take k) = true) ∧ Hid (Ext W1 wr)) (fun _ si _ => N - (intOf si).toNat)
    case atStart => exact ⟨0, by omega, rfl, Lib.hid (by simp [rightL]), HX2⟩
    case round =>
      clear c16
      obtain ⟨k, hk, rfl, HRk, HX⟩ := hrel
      by_cases hkN : k = N
      · subst hkN
        have HV : Hid (rightL d' ts = true) := Lib.hid (by
          have := HRk.out
          rwa [List.take_of_length_le (by rw [HN.out]; exact Nat.le_refl _)] at this)
        go_wp2_with fail
        go_ret
        exact ⟨by rw [HRT2.out, HV.out]; rfl, HE1.out.trans HX.out⟩
      have hkN' : (k : Int) < (N : Int) := by omega
      obtain ⟨t, ht⟩ : ∃ t, ts[k]? = some t := ⟨_, List.getElem?_eq_getElem (by rw [HN.out]; omega)⟩
      obtain ⟨f, hf⟩ : ∃ f, fs[k]? = some f := ⟨_, List.getElem?_eq_getElem (by rw [HL.out, HN.out]; omega)⟩
      obtain ⟨g, o, rfl, hB, hNA⟩ := HS.out k f hf
      have hna := hNA.keeps hB (.of_ext (HE1.out.trans HX.out))
      clear hNA
      go_wp2_with (first | ((with_reducible refine wpl_guard (isLoad 33) ?_ ?_); (· rfl); refine wpl_load_node rfl 33 _ rfl rfl hna Tryd.underlying33 rfl ?_ ?_; (· kernel_rfl); (try dsimp only [Act.put, List.setIfInBounds_toArray, List.set_cons_zero, List.set_cons_succ])) | ((with_reducible refine wpl_guard (isLoad 33) ?_ ?_); (· rfl); refine wpl_load (t := ?_) (cs := ?_) (fr := ?_) rfl 33 _ rfl rfl ?_ Tryd.underlying33 rfl ?_ ?_; rotate_left 3; (· (first | (with_reducible assumption) | (simp (disch := (first | omega | (simp only [World.size_alloc, World.size_setCell, World.size_drew, size_setRow]; done) | (simp only [World.size_alloc, World.size_setCell, World.size_drew, size_setRow]; omega))) only [hq_at, hq_past, hq_drew, hq_drewN, hq_cell, hq_row, hq_same, rowOf_cells, Option.map_some, *]; rfl) | (simp (disch := (first | omega | (simp only [World.size_alloc, World.size_setCell, World.size_drew, size_setRow]; done) | (simp only [World.size_alloc, World.size_setCell, World.size_drew, size_setRow]; omega))) only [hq_at, hq_past, hq_drew, hq_drewN, hq_cell, hq_row, hq_same, rowOf_cells, Option.map_some, *]))); (· kernel_rfl); (try dsimp only [Act.put, List.setIfInBounds_toArray, List.set_cons_zero, List.set_cons_succ])) | ((with_reducible refine wpl_guard (isStore 33) ?_ ?_); (· rfl); refine wpl_store (t := ?_) (old := ?_) (w' := ?_) rfl 33 _ _ rfl rfl rfl ?_ ?_ ?_ ?_ ?_ ?_; rotate_left 2; (· (first | (with_reducible assumption) | (simp (disch := (first | omega | (simp only [World.size_alloc, World.size_setCell, World.size_drew, size_setRow]; done) | (simp only [World.size_alloc, World.size_setCell, World.size_drew, size_setRow]; omega))) only [hq_at, hq_past, hq_drew, hq_drewN, hq_cell, hq_row, hq_same, rowOf_cells, Option.map_some, *]; rfl) | (simp (disch := (first | omega | (simp only [World.size_alloc, World.size_setCell, World.size_drew, size_setRow]; done) | (simp only [World.size_alloc, World.size_setCell, World.size_drew, size_setRow]; omega))) only [hq_at, hq_past, hq_drew, hq_drewN, hq_cell, hq_row, hq_same, rowOf_cells, Option.map_some, *]))); (· kernel_rfl); (· rfl); (· rfl); rotate_left 1; (· (first | (simp (disch := (first | omega | (simp only [World.size_alloc, World.size_setCell, World.size_drew, size_setRow]; done) | (simp only [World.size_alloc, World.size_setCell, World.size_drew, size_setRow]; omega))) only [setRow_at, setRow_past, setRow_drew]; rfl) | rfl))))
      have hm := sizeL_mem ht
      have hX2 := (HE1.out.trans HX.out).trans (below_alloc1 wr (.cells f.cells 33))
      refine (HIH.out t f B d' _ (by have := HSZ.out; omega) HD'.out ((HK.out k t f ht hf).ext hX2) (HTAB.out.ext hX2) (HENV.out.ext hX2)).mono ?_
      rintro e w' ⟨rfl, hE3⟩
      have HX3 : Hid (Ext W1 w') := Lib.hid ((HX.out.trans (below_alloc1 wr (.cells f.cells 33))).trans hE3)
      obtain ⟨bt, hbt⟩ : ∃ b, rightT d' t = b := ⟨_, rfl⟩
      rw [hbt]
      have HBT := Lib.hid hbt
      have HT := Lib.hid ht
      have HK1 : Hid (k + 1 ≤ N) := Lib.hid (by omega)
      clear hm hX2 hE3 hna ht hf hbt hB hk
      cases bt
      · go_wp2_with fail
        go_ret
        exact ⟨by rw [HRT2.out, rightL_bad HT.out HBT.out]; rfl, HE1.out.trans HX3.out⟩
      · go_wp2_with fail
        exact ⟨⟨k + 1, HK1.out, rfl, Lib.hid (by rw [rightL_take HT.out, HRk.out, HBT.out]; rfl), HX3⟩, by simp [intOf]; omega⟩
theorem tright_any (t : Tr) (f : Fl) (B : Nat → Prop) (W : World) (h : Rep W B t f) (ht : Tab W) (hE : EnvP W) :
    Calls Tryd.prog 16 #[f.val] W fun e w' => e = .returned (.bool (rightT 200 t)) ∧ Ext W w' := by
  have HR := Lib.hid (fun W h ht hE => right_any (sizeT t) t f B 200 W (Nat.le_refl _) (by omega) h ht hE)
  obtain ⟨W1, hW1, hE1, hG1, hL1, hS1⟩ := new_blk W f.cells 33
  have HW1 := Lib.hid hW1
  have HE1 := Lib.hid hE1
  have hR1 := HR.out W1 (h.ext hE1) (ht.ext hE1) (hE.ext hE1)
  have HR1 := Lib.hid hR1
  clear hW1 hE1 hL1 hS1 hR1 HR h ht hE
  unfold Fl.val at HR1 ⊢
  go_enter Tryd.func16, Tryd.ntmps16
  go_upto_region 1 with (fail)
  rw [HW1.out]
  clear HW1
  go_wp2_with (first | ((with_reducible refine wpl_guard (isLoad 33) ?_ ?_); (· rfl); refine wpl_load (t := ?_) (cs := ?_) (fr := ?_) rfl 33 _ rfl rfl ?_ Tryd.underlying33 rfl ?_ ?_; rotate_left 3; (· (first | (with_reducible assumption) | (simp (disch := (first | omega | (simp only [World.size_alloc, World.size_setCell, World.size_drew, size_setRow]; done) | (simp only [World.size_alloc, World.size_setCell, World.size_drew, size_setRow]; omega))) only [hq_at, hq_past, hq_drew, hq_drewN, hq_cell, hq_row, hq_same, rowOf_cells, Option.map_some, *]; rfl) | (simp (disch := (first | omega | (simp only [World.size_alloc, World.size_setCell, World.size_drew, size_setRow]; done) | (simp only [World.size_alloc, World.size_setCell, World.size_drew, size_setRow]; omega))) only [hq_at, hq_past, hq_drew, hq_drewN, hq_cell, hq_row, hq_same, rowOf_cells, Option.map_some, *]))); (· kernel_rfl); (try dsimp only [Act.put, List.setIfInBounds_toArray, List.set_cons_zero, List.set_cons_succ])))
  refine HR1.out.mono ?_
  rintro e w' ⟨rfl, hE⟩
  have HE := Lib.hid hE
  clear hE hG1
  go_wp2_with fail
  go_ret
  exact ⟨rfl, HE1.out.trans HE.out⟩
end Go.Proofs.YtffogjhjgmohiaaDoor
