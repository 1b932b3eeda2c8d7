/-
  AddrAreas: walk. Conditions: the arguments' own.
-/
import Derived.Test.YtkbcdnndhglnoaaDoorAddrG
import Derived.Test.YtkbcdnndhglnoaaDoorAddrE
namespace Go.Proofs.YtkbcdnndhglnoaaDoor.addrAreas
open Go.RowKit
set_option linter.unusedVariables false
set_option linter.unusedSimpArgs false
attribute [local go_sem] Oper.semAt_some

theorem fin_sorted (N : Nat) : (List.finRange N).Pairwise (· < ·) := by
  rw [List.pairwise_iff_getElem]
  intro i j hi hj h
  simp only [List.getElem_finRange, Fin.lt_def]
  simpa using h
theorem pre_sorted {N : Nat} {pre : List (Fin N)} (h : pre <+: List.finRange N) : pre.Pairwise (· < ·) := (fin_sorted N).sublist h.sublist
/-- The column and the row of the area's cell i. -/
def aX (c c' i : Nat) : Nat := min c c' + i % aW c c'
def aY (c c' r r' i : Nat) : Nat := min r r' + i / aW c c'
theorem aX_bd (c c' i : Nat) : min c c' ≤ aX c c' i ∧ aX c c' i ≤ max c c' := by
  have h : i % aW c c' < aW c c' := Nat.mod_lt _ (by unfold aW; omega)
  have e : aW c c' = max c c' - min c c' + 1 := rfl
  unfold aX
  generalize i % aW c c' = k at *
  omega
theorem aY_bd (s s' : Int) (c c' r r' i : Nat) (hi : i < aN s s' c c' r r') : s = s' ∧ min r r' ≤ aY c c' r r' i ∧ aY c c' r r' i ≤ max r r' := by
  unfold aN at hi
  split at hi
  · next hs =>
    have h : i / aW c c' < aW r r' := (Nat.div_lt_iff_lt_mul (by unfold aW; omega)).2 hi
    have e : aW r r' = max r r' - min r r' + 1 := rfl
    unfold aY
    generalize i / aW c c' = k at *
    exact ⟨hs, by omega, by omega⟩
  · omega
theorem less_step (s : Int) (c c' r r' i j : Nat) : lessV s (aX c c' i) (aY c c' r r' i) s (aX c c' j) (aY c c' r r' j) = decide (i < j) := by
  have ei := Nat.div_add_mod i (aW c c')
  have ej := Nat.div_add_mod j (aW c c')
  have hi : i % aW c c' < aW c c' := Nat.mod_lt _ (by unfold aW; omega)
  have hj : j % aW c c' < aW c c' := Nat.mod_lt _ (by unfold aW; omega)
  unfold lessV aX aY
  rw [if_pos rfl]
  by_cases hq : i / aW c c' = j / aW c c'
  · rw [if_pos (by rw [hq])]
    rw [hq] at ei
    generalize aW c c' * (j / aW c c') = m at *
    generalize i % aW c c' = x at *
    generalize j % aW c c' = y at *
    exact decide_eq_decide.2 (by omega)
  · rw [if_neg (by omega)]
    refine decide_eq_decide.2 ?_
    constructor
    · intro h
      have h1 : i / aW c c' + 1 ≤ j / aW c c' := by omega
      have h2 := Nat.mul_le_mul_left (aW c c') h1
      rw [Nat.mul_add, Nat.mul_one] at h2
      omega
    · intro h
      have h1 : i / aW c c' ≤ j / aW c c' := Nat.div_le_div_right (Nat.le_of_lt h)
      omega
theorem less_first (s : Int) (hs : 0 ≤ s) (x y : Int) : lessV (-1) 0 0 s x y = true := by
  unfold lessV
  rw [if_neg (by omega)]
  simp; omega
/-- The last cell seen. -/
def lastS (s : Int) {N : Nat} (pre : List (Fin N)) : Int := if pre = [] then -1 else s
def lastX (c c' : Nat) {N : Nat} (pre : List (Fin N)) : Int := match pre.getLast? with | none => 0 | some x => (aX c c' x.1 : Nat)
def lastY (c c' r r' : Nat) {N : Nat} (pre : List (Fin N)) : Int := match pre.getLast? with | none => 0 | some x => (aY c c' r r' x.1 : Nat)
theorem last_app (s : Int) (c c' r r' : Nat) {N : Nat} (pre : List (Fin N)) (x : Fin N) : lastS s (pre ++ [x]) = s ∧ lastX c c' (pre ++ [x]) = (aX c c' x.1 : Nat) ∧ lastY c c' r r' (pre ++ [x]) = (aY c c' r r' x.1 : Nat) := by
  refine ⟨by unfold lastS; rw [if_neg (by simp)], ?_, ?_⟩
  · unfold lastX; rw [List.getLast?_append]; rfl
  · unfold lastY; rw [List.getLast?_append]; rfl
theorem last_less (s : Int) (hs : 0 ≤ s) (c c' r r' : Nat) {N : Nat} (pre : List (Fin N)) (x : Fin N) : lessV (lastS s pre) (lastX c c' pre) (lastY c c' r r' pre) s (aX c c' x.1 : Nat) (aY c c' r r' x.1 : Nat) = true ∨ ¬ (pre ++ [x]).Pairwise (· < ·) := by
  cases h : pre.getLast? with
  | none =>
    have : pre = [] := by simpa using h
    subst this
    exact .inl (less_first s hs _ _)
  | some y =>
    have hm := List.mem_of_getLast? h
    have h0 : pre ≠ [] := by rintro rfl; cases h
    by_cases hl : y.1 < x.1
    · refine .inl ?_
      unfold lastS lastX lastY
      rw [if_neg h0, h]
      show lessV s (aX c c' y.1) (aY c c' r r' y.1) s _ _ = true
      rw [less_step]
      simpa using hl
    · refine .inr fun hp => hl ?_
      exact (List.pairwise_append.1 hp).2.2 y hm x (List.mem_singleton.2 rfl)

theorem _root_.Go.Proofs.YtkbcdnndhglnoaaDoor.KpN.of_ext {n : Nat} {W W' : World} (h : Ext W W') : KpN n W W' := fun _ _ _ h1 _ => h.blk h1
theorem _root_.Go.Proofs.YtkbcdnndhglnoaaDoor.KeptC.ext {gs : List Nat} {W0 W W' : World} (h : KeptC gs W0 W) (hE : Ext W W') : KeptC gs W0 W' := fun k o h0 hc hk => hE.blk (h k o h0 hc hk)
theorem aC_xy (s : Int) (c c' r r' i : Nat) : aC s c c' r r' i = ceV s (aX c c' i : Nat) (aY c c' r r' i : Nat) := rfl
set_option maxHeartbeats 8000000 in
set_option maxRecDepth 100000 in
theorem walk0 (s1 c1 r1 s2 c2 r2 st : Int) (w : World) (hm : MaxI w) :
    Calls Tryd.prog 8 #[ceV s1 c1 r1, ceV s2 c2 r2, .int .i64 st] w fun e w' => e = .returned (.bool true) ∧ Ext w w' := by
  obtain ⟨W1, hW1, hE1, hG1, hL1, hS1⟩ := new_blk w #[.int .i64 s1, .int .i64 c1, .int .i64 r1] 23
  obtain ⟨W2, hW2, hE2, hG2, hL2, hS2⟩ := new_blk W1 #[.int .i64 s2, .int .i64 c2, .int .i64 r2] 23
  obtain ⟨W3, hW3, hE3, hG3, hL3, hS3⟩ := new_blk W2 #[.int .i64 st] 3
  obtain ⟨W4, hW4, hE4, hG4, hL4, hS4⟩ := new_blk W3 #[.bool false] 4
  obtain ⟨g, hg⟩ : ∃ g, w.heap.size = g := ⟨_, rfl⟩
  rw [hS1] at hG2
  rw [hS2, hS1] at hG3
  rw [hS3, hS2, hS1] at hG4
  rw [hg] at hG1 hG2 hG3 hG4
  have HW1 := Lib.hid hW1
  have HW2 := Lib.hid hW2
  have HW3 := Lib.hid hW3
  have HW4 := Lib.hid hW4
  have E03 := hE1.trans (hE2.trans (hE3.trans hE4))
  have HE3 := Lib.hid E03
  have HM := Lib.hid (hm.ext E03)
  have HG := Lib.hid hg
  have b1 := ext_blk (hE4.blk (hE3.blk (hE2.blk hG1)))
  have b2 := ext_blk (hE4.blk (hE3.blk hG2))
  have b4 := ext_blk hG4
  have l1 := ext_lt (blk_lt (hE4.blk (hE3.blk (hE2.blk hG1))))
  have l2 := ext_lt (blk_lt (hE4.blk (hE3.blk hG2)))
  have l4 := ext_lt (blk_lt hG4)
  have H1 := Lib.hid (hE4.blk (hE3.blk (hE2.blk hG1)))
  have H2 := Lib.hid (hE4.blk (hE3.blk hG2))
  have H3 := Lib.hid (hE4.blk hG3)
  have H4 := Lib.hid hG4
  have e0 : CallE Tryd.prog W4 9 #[] (.bool true) := fun w' hE => fit_a w' (HM.out.ext hE)
  have e1 : CallE Tryd.prog W4 _ _ _ := fun w' _ => lright_any s1 c1 r1 w'
  have e2 : CallE Tryd.prog W4 _ _ _ := fun w' _ => lright_any s2 c2 r2 w'
  have B1 := Lib.hid (fun h => ins_bd (s := s1) (c := c1) (r := r1) h)
  have B2 := Lib.hid (fun h => ins_bd (s := s2) (c := c2) (r := r2) h)
  generalize insV s1 c1 r1 = i1 at *
  generalize insV s2 c2 r2 = i2 at *
  have hr := Ext.refl W4
  have z4 := ext_frozen (blk_lt hG4) (frozen_of_row W4 (g + 1 + 1 + 1) 0 _ _ hG4)
  have HGG := Lib.hid hg
  clear hW1 hW2 hW3 hW4 hE1 hE2 hE3 hE4 hG1 hG2 hG3 hG4 hL1 hL2 hL3 hL4 hS1 hS2 hS3 hS4 hm E03 hg
  refine (callsIn_wide (n := 5)).1 ?_
  refine callsIn_of_wp_marks Tryd.func8 rfl trivial ?_ rfl
  simp only [Tryd.ntmps8, List.size_toArray, List.length_cons, List.length_nil, Nat.reduceAdd, Nat.reduceSub, Array.replicate_succ, Array.replicate_zero, List.push_toArray, List.append_toArray, List.nil_append, List.cons_append]
  refine wpIn_wide.2 ?_
  go_wp2_with fail
  rw [HW1.out, HW2.out, HW3.out, HW4.out, HG.out]
  clear HW1 HW2 HW3 HW4 HG
  have RES : Hid (∀ (tmps : Array Value), tmps.getD 6 undef = .pointer (some ⟨g + 1 + 1 + 1, 0, none⟩) → ∀ W v, W.cell? ⟨g + 1 + 1 + 1, 0, none⟩ = some (.bool v) → (results Tryd.f8 tmps).run Tryd.prog W = .ok (.bool v) W) := Lib.hid (by
    intro tmps ht W v h
    rw [Array.getD_eq_getD_getElem?] at ht
    simp [results, Tryd.results8, go_sem, ht, h])
  have EARLY : Hid (∀ w' (tmps : Array Value), Ext W4 w' → tmps.getD 6 undef = .pointer (some ⟨g + 1 + 1 + 1, 0, none⟩) → bodyPostM Fence.wide 5 Tryd.prog Tryd.f8 (fun e w' => e = Ending.returned (Value.bool true) ∧ Ext w w') Exit.ret { tmps := tmps, defers := [] } (w'.setCell ⟨g + 1 + 1 + 1, 0, none⟩ (.bool true))) := Lib.hid (by
    intro w' tmps hE ht
    have hb := hE.blk H4.out
    refine leave_bool (g := g + 1 + 1 + 1) (t := 6) (b := true) rfl ht (RES.out tmps ht) (by rw [hq_put rfl, hb]; rfl) ⟨rfl, ?_⟩
    exact ext_set (HE3.out.trans hE) (by have := HGG.out; show w.heap.size ≤ g + 1 + 1 + 1; omega))
  cases i1
  · go_wp2_with (first | ((with_reducible refine (CallE.at_ (by assumption) (by assumption)).mono ?_); rintro e w' ⟨rfl, hEx⟩))
    exact EARLY.out _ _ hEx rfl
  cases i2
  · go_wp2_with (first | ((with_reducible refine (CallE.at_ (by assumption) (by assumption)).mono ?_); rintro e w' ⟨rfl, hEx⟩))
    exact EARLY.out _ _ hEx rfl
  clear EARLY z4
  obtain ⟨⟨p1, p2⟩, ⟨p3, p4⟩, p5, p6⟩ := B1.out rfl
  obtain ⟨⟨p7, p8⟩, ⟨p9, p10⟩, p11, p12⟩ := B2.out rfl
  clear B1 B2
  obtain ⟨c1, rfl⟩ : ∃ k : Nat, c1 = (k : Int) := ⟨c1.toNat, by omega⟩
  obtain ⟨r1, rfl⟩ : ∃ k : Nat, r1 = (k : Int) := ⟨r1.toNat, by omega⟩
  obtain ⟨c2, rfl⟩ : ∃ k : Nat, c2 = (k : Int) := ⟨c2.toNat, by omega⟩
  obtain ⟨r2, rfl⟩ : ∃ k : Nat, r2 = (k : Int) := ⟨r2.toNat, by omega⟩
  by_cases hs : s1 = s2
  · subst hs
    obtain ⟨x0, hx0⟩ : ∃ k, min c1 c2 = k := ⟨_, rfl⟩
    obtain ⟨x1, hx1⟩ : ∃ k, max c1 c2 = k := ⟨_, rfl⟩
    obtain ⟨y0, hy0⟩ : ∃ k, min r1 r2 = k := ⟨_, rfl⟩
    obtain ⟨y1, hy1⟩ : ∃ k, max r1 r2 = k := ⟨_, rfl⟩
    have ho : ordV s1 c1 r1 s1 c2 r2 = .tuple #[ceV s1 x0 y0, ceV s1 x1 y1, .bool true] := by
      rw [ordV, if_pos rfl, show min (c1 : Int) c2 = (x0 : Int) by omega, show min (r1 : Int) r2 = (y0 : Int) by omega, show max (c1 : Int) c2 = (x1 : Int) by omega, show max (r1 : Int) r2 = (y1 : Int) by omega]
    have n1 : min (c1 : Int) (c2 : Int) = (x0 : Int) := by omega
    have n2 : max (r1 : Int) (r2 : Int) = (y1 : Int) := by omega
    have n3 : decide (x1 < x0) = false := by simp; omega
    have n4 : decide (y1 < y0) = false := by simp; omega
    have n5 : ((x0 : Int) != (x0 : Int)) = false := by simp
    have n6 : ((y1 : Int) != (y1 : Int)) = false := by simp
    have n7 : (s1 == s1) = true := by simp
    have e3 : CallE Tryd.prog W4 16 #[ceV s1 c1 r1, ceV s1 c2 r2] (.tuple #[ceV s1 x0 y0, ceV s1 x1 y1, .bool true]) := fun w' _ => by have := order_any s1 c1 r1 s1 c2 r2 w'; rwa [ho] at this
    have HN1 := Lib.hid (And.intro hx0 (And.intro hx1 (And.intro hy0 hy1)))
    have hB0 : Hid (0 ≤ s1) := Lib.hid p1
    have HB : Hid ((c1 < 26 ∧ r1 < 99) ∧ c2 < 26 ∧ r2 < 99) := Lib.hid (by omega)
    clear ho hx0 hx1 hy0 hy1 p1 p2 p3 p4 p5 p6 p7 p8 p9 p10 p11 p12
    go_upto_region 6 with (first | ((with_reducible refine (CallE.at_ (by assumption) (by assumption)).mono ?_); rintro e w' ⟨rfl, hEx⟩))
    obtain ⟨W5, hW5, hE5, hG5, hL5, hS5⟩ := new_blk w' #[.int .i64 s1, .int .i64 (x0 : Int), .int .i64 (y0 : Int)] 23
    obtain ⟨W6, hW6, hE6, hG6, hL6, hS6⟩ := new_blk W5 #[.int .i64 s1, .int .i64 (x1 : Int), .int .i64 (y1 : Int)] 23
    rw [hW5, hW6]
    rw [hS5] at hG6
    obtain ⟨g5, hg5⟩ : ∃ k, w'.heap.size = k := ⟨_, rfl⟩
    rw [hg5] at hG5 hG6 ⊢
    have E46 := hEx.trans (hE5.trans hE6)
    have k1 := E46.blk H1.out
    have k2 := E46.blk H2.out
    have K5 := Lib.hid (hE6.blk hG5)
    have K6 := Lib.hid hG6
    have HL5 : Hid (W4.heap.size ≤ g5) := Lib.hid (by rw [← hg5]; exact hEx.size)
    have HE46 := Lib.hid E46
    clear hW5 hE5 hG5 hL5 hS5 hW6 hE6 hG6 hL6 hS6 hg5 hr hEx E46 e0 e1 e2 e3 b1 b2 b4 l1 l2 l4
    have c10 := cell_of_row W6 g 0 _ _ _ k1
    have c11 := cell_of_row W6 g 1 _ _ _ k1
    have c12 := cell_of_row W6 g 2 _ _ _ k1
    have c20 := cell_of_row W6 (g + 1) 0 _ _ _ k2
    have c21 := cell_of_row W6 (g + 1) 1 _ _ _ k2
    have c22 := cell_of_row W6 (g + 1) 2 _ _ _ k2
    have c51 := cell_of_row W6 g5 1 _ _ _ K5.out
    have c52 := cell_of_row W6 g5 2 _ _ _ K5.out
    have c61 := cell_of_row W6 (g5 + 1) 1 _ _ _ K6.out
    have c62 := cell_of_row W6 (g5 + 1) 2 _ _ _ K6.out
    simp only [List.getElem?_toArray, List.getElem?_cons_zero, List.getElem?_cons_succ] at c10 c11 c12 c20 c21 c22 c51 c52 c61 c62
    clear k1 k2
    obtain ⟨W7, hW7, hE7, hG7, hL7, hS7⟩ := new_blk W6 #[.int .i64 0] 3
    obtain ⟨W8, hW8, hE8, hG8, hL8, hS8⟩ := new_blk W7 #[.int .i64 (-1), .int .i64 0, .int .i64 0] 23
    obtain ⟨g7, hg7⟩ : ∃ k, W6.heap.size = k := ⟨_, rfl⟩
    rw [hS7] at hG8
    rw [hg7] at hG7 hG8
    have HW7 := Lib.hid hW7
    have HW8 := Lib.hid hW8
    have HG7 := Lib.hid hg7
    have E68 := hE7.trans hE8
    have hE48 := HE46.out.trans E68
    have J1 := Lib.hid (hE48.blk H1.out)
    have J2 := Lib.hid (hE48.blk H2.out)
    have J3 := Lib.hid (hE48.blk H3.out)
    have J4 := Lib.hid (hE48.blk H4.out)
    have J5 := Lib.hid (E68.blk K5.out)
    have J6 := Lib.hid (E68.blk K6.out)
    have J7 := Lib.hid (hE8.blk hG7)
    have J8 := Lib.hid hG8
    have HE48 := Lib.hid hE48
    have HORD : Hid (g + 1 + 1 + 1 < g5 ∧ g5 + 1 < g7) := Lib.hid ⟨Nat.lt_of_lt_of_le (blk_lt H4.out) HL5.out, by rw [← hg7]; exact blk_lt K6.out⟩
    have j1 := J1.out
    have j2 := J2.out
    have d10 := cell_of_row W8 g 0 _ _ _ j1
    have d11 := cell_of_row W8 g 1 _ _ _ j1
    have d12 := cell_of_row W8 g 2 _ _ _ j1
    have d20 := cell_of_row W8 (g + 1) 0 _ _ _ j2
    have d21 := cell_of_row W8 (g + 1) 1 _ _ _ j2
    have d22 := cell_of_row W8 (g + 1) 2 _ _ _ j2
    simp only [List.getElem?_toArray, List.getElem?_cons_zero, List.getElem?_cons_succ] at d10 d11 d12 d20 d21 d22
    clear hW7 hE7 hG7 hL7 hS7 hW8 hE8 hG8 hL8 hS8 hg7 E68 hE48 H1 H2 H3 H4 K5 K6 HE46 HL5 j1 j2
    go_upto_region 9 with (fail)
    rw [HW7.out, HW8.out, HG7.out]
    clear HW7 HW8 HG7 c10 c11 c12 c20 c21 c22 c51 c52 c61 c62
    go_wp2_with fail
    refine (cells_any _ _ _ _ _ _ _).mono ?_
    rintro e w' ⟨rfl, rfl⟩
    obtain ⟨W9, hW9, hE9, hG9, hL9, hS9⟩ := new_blk W8 #[.int .i64 s1, .int .i64 (c1 : Int), .int .i64 (r1 : Int)] 23
    obtain ⟨W10, hW10, hE10, hG10, hL10, hS10⟩ := new_blk W9 #[.int .i64 s1, .int .i64 (c2 : Int), .int .i64 (r2 : Int)] 23
    rw [hW9, hW10]
    rw [hS9] at hG10
    obtain ⟨g9, hg9⟩ : ∃ k, W8.heap.size = k := ⟨_, rfl⟩
    rw [hg9] at hG9 hG10 ⊢
    have E810 := hE9.trans hE10
    have F1 := Lib.hid (E810.blk J1.out)
    have F3 := Lib.hid (E810.blk J3.out)
    have F4 := Lib.hid (E810.blk J4.out)
    have F5 := Lib.hid (E810.blk J5.out)
    have F6 := Lib.hid (E810.blk J6.out)
    have F7 := Lib.hid (E810.blk J7.out)
    have F8 := Lib.hid (E810.blk J8.out)
    have FA := Lib.hid (hE10.blk hG9)
    have FB := Lib.hid hG10
    have HEW := Lib.hid (HE3.out.trans (HE48.out.trans E810))
    have ORD : Hid (g + 1 + 1 + 1 < g5 ∧ g5 + 1 < g7 ∧ g7 + 1 < g9 ∧ g9 + 1 < W10.heap.size) := Lib.hid ⟨HORD.out.1, HORD.out.2, by rw [← hg9]; exact blk_lt J8.out, blk_lt hG10⟩
    clear hE9 hG9 hL9 hS9 hW9 hE10 hG10 hL10 hS10 hW10 hg9 E810 J1 J2 J3 J4 J5 J6 J7 J8 HE48 HORD HE3 HM d10 d11 d12 d20 d21 d22
    go_wp2_with fail
    refine (wpIn_wide (n := 5)).1 ?_
    have hb := HB.out
    obtain ⟨I, hI⟩ : ∃ I : List (Fin (aN s1 s1 c1 c2 r1 r2)) → World → Prop, I = fun pre W => (((W.heap[g7]? = some (.cells #[.int .i64 (pre.length : Int)] 3 (0, 0)) ∧ W.heap[g7 + 1]? = some (.cells #[.int .i64 (lastS s1 pre), .int .i64 (lastX c1 c2 pre), .int .i64 (lastY c1 c2 r1 r2 pre)] 23 (0, 0))) ∧ KeptC [g7, g7 + 1] W10 W) ∧ Below w.heap.size w W) := ⟨_, rfl⟩
    obtain ⟨Ix, hIx⟩ : ∃ Ix : Code → List (Fin (aN s1 s1 c1 c2 r1 r2)) → World → Prop, Ix = fun c pre W => (c = Code.exit 0 ∧ ((W.heap[g7]? = some (.cells #[.int .i64 st] 3 (0, 0)) ∧ KeptC [g7, g7 + 1] W10 W) ∧ Below w.heap.size w W)) ∨ (c = Code.ret ∧ ¬ pre.Pairwise (· < ·)) := ⟨_, rfl⟩
    refine range_boxed (n := 5) 12 (by omega) rfl (enters_of Tryd.func22 (by kernel_rfl) rfl) (cells_stops 4 g9 (g9 + 1) s1 s1 c1 c2 r1 r2 (by omega) (by omega) (by omega) (by omega) (by omega) W10 FA.out FB.out)
      I Ix ?ownI ?ownX ?start
      (fun x B W => g9 < B ∧ W.heap[B]? = some (.cells #[.int .i64 s1, .int .i64 (aX c1 c2 x.1 : Nat), .int .i64 (aY c1 c2 r1 r2 x.1 : Nat)] 23 (0, 0)))
      (fun x B => OwnFrom.and (ownFrom_pure _ (fun _ => g9 < B)) (Own.from (heap_own B (fun _ : Unit => #[.int .i64 s1, .int .i64 (aX c1 c2 x.1 : Nat), .int .i64 (aY c1 c2 r1 r2 x.1 : Nat)]) 23) _)) ?assign ?body ?done ?stop
    case ownI =>
      subst hI
      exact OwnFrom.and (OwnFrom.and (OwnFrom.and (Own.from (heap_own g7 (fun pre : List (Fin (aN s1 s1 c1 c2 r1 r2)) => #[.int .i64 (pre.length : Int)]) 3) _) (Own.from (heap_own (g7 + 1) (fun pre : List (Fin (aN s1 s1 c1 c2 r1 r2)) => #[.int .i64 (lastS s1 pre), .int .i64 (lastX c1 c2 pre), .int .i64 (lastY c1 c2 r1 r2 pre)]) 23) _)) (Own.from (KeptC.own _ _) _)) (ownFrom_below (Nat.le_refl _) HEW.out.size)
    case ownX =>
      subst hIx
      intro c
      have hk : OwnFrom W10.heap.size (fun (_ : List (Fin (aN s1 s1 c1 c2 r1 r2))) W => (W.heap[g7]? = some (.cells #[.int .i64 st] 3 (0, 0)) ∧ KeptC [g7, g7 + 1] W10 W) ∧ Below w.heap.size w W) :=
        OwnFrom.and (OwnFrom.and (Own.from (heap_own g7 (fun pre : List (Fin (aN s1 s1 c1 c2 r1 r2)) => #[.int .i64 st]) 3) _) (Own.from (KeptC.own _ _) _)) (ownFrom_below (Nat.le_refl _) HEW.out.size)
      intro pre A B row h hg hr
      exact h.imp (fun h => ⟨h.1, hk pre A B row h.2 hg hr⟩) (fun h => h)
    case start =>
      subst hI
      exact ⟨⟨⟨F7.out, F8.out⟩, KeptC.refl _ _⟩, HEW.out⟩

    case assign =>
      subst hI
      rintro l pre x W K ⟨⟨⟨hn, hla⟩, hk⟩, hB⟩ hK
      simp only [List.setIfInBounds_toArray, List.set_cons_zero, List.set_cons_succ] at hK ⊢
      rw [aC_xy] at hK ⊢
      generalize ((aX c1 c2 x.1 : Nat) : Int) = cc at *
      generalize ((aY c1 c2 r1 r2 x.1 : Nat) : Int) = rr at *
      have Hn := Lib.hid hn
      have Hl := Lib.hid hla
      have Hk := Lib.hid hk
      have HBl := Lib.hid hB
      clear hn hla hk hB
      gi_wp2
      exact hK W.heap.size _ ((KeepsOthers.alloc _ _).from _) ((KpN.refl _ _).alloc _) ⟨⟨⟨(ext_alloc (Ext.refl _) _).blk Hn.out, (ext_alloc (Ext.refl _) _).blk Hl.out⟩, Hk.out.alloc _⟩, ext_alloc HBl.out _⟩
        ⟨by have := blk_lt (Hk.out _ _ FB.out rfl (by simp only [List.mem_cons, List.not_mem_nil, or_false]; have := ORD.out; omega)); omega, World.alloc_heap_new _ _⟩
    case body =>
      subst hI
      subst hIx
      rintro l pre x B W ⟨⟨⟨hn, hla⟩, hk⟩, hB⟩ ⟨hlt, hx⟩ hlen
      have hb1 := aX_bd c1 c2 x.1
      have hb2 := aY_bd s1 s1 c1 c2 r1 r2 x.1 x.2
      have hll := last_less s1 hB0.out c1 c2 r1 r2 pre x
      have hap := last_app s1 c1 c2 r1 r2 pre x
      obtain ⟨q1, q2, q3, q4⟩ := HN1.out
      rw [q1, q2] at hb1
      rw [q3, q4] at hb2
      have hN := aN_lt s1 s1 (c := c1) (c' := c2) (r := r1) (r' := r2) (by omega) (by omega) (by omega) (by omega)
      simp only [List.setIfInBounds_toArray, List.set_cons_zero, List.set_cons_succ]
      generalize aX c1 c2 x.1 = ax at *
      generalize aY c1 c2 r1 r2 x.1 = ay at *
      obtain ⟨k, hkk⟩ : ∃ k, pre.length = k := ⟨_, rfl⟩
      have hb3 : lastS s1 pre = lastS s1 pre := rfl
      generalize lastS s1 pre = ls at *
      generalize lastX c1 c2 pre = lx at *
      generalize lastY c1 c2 r1 r2 pre = ly at *
      rw [hkk] at hn hlen
      have f1 := hk _ _ F1.out rfl (by simp only [List.mem_cons, List.not_mem_nil, or_false]; have := ORD.out; omega)
      have f3 := hk _ _ F3.out rfl (by simp only [List.mem_cons, List.not_mem_nil, or_false]; have := ORD.out; omega)
      have f4 := hk _ _ F4.out rfl (by simp only [List.mem_cons, List.not_mem_nil, or_false]; have := ORD.out; omega)
      have f5 := hk _ _ F5.out rfl (by simp only [List.mem_cons, List.not_mem_nil, or_false]; have := ORD.out; omega)
      have f6 := hk _ _ F6.out rfl (by simp only [List.mem_cons, List.not_mem_nil, or_false]; have := ORD.out; omega)
      have b7 := ext_blk hn
      have b8 := ext_blk hla
      have bx := ext_blk hx
      have b1 := ext_blk f1
      have b5 := ext_blk f5
      have b6 := ext_blk f6
      have l7 := ext_lt (blk_lt hn)
      have hr := Ext.refl W
      have Hn := Lib.hid hn
      have Hl := Lib.hid hla
      have Hk := Lib.hid hk
      have HBl := Lib.hid hB
      have HAP := Lib.hid hap
      have HKK := Lib.hid hkk
      have cn := cell_of_row W g7 0 _ _ _ hn
      have cs := cell_of_row W (g + 1 + 1) 0 _ _ _ f3
      simp only [List.getElem?_toArray, List.getElem?_cons_zero, List.getElem?_cons_succ] at cn cs
      have hk1 : (k : Int) < 1000000 := by omega
      by_cases hq : (k : Int) = st
      · subst hq
        clear hn hla hx f1 f3 f4 f5 f6 hk hB hap hkk hll b7 b8 bx b1 b5 b6
        gi_wp2
        exact ⟨KeepsFrom.refl _ _, .inl ⟨rfl, ⟨Hn.out, Hk.out⟩, HBl.out⟩⟩
      · have q7 : ((k : Int) == st) = false := by simpa using hq
        obtain ⟨bl, hbl⟩ : ∃ bl, lessV ls lx ly s1 ax ay = bl := ⟨_, rfl⟩
        have HLL : Hid (bl = false → ¬ (pre ++ [x]).Pairwise (· < ·)) := Lib.hid (fun e => hll.resolve_left (by rw [hbl, e]; simp))
        have e4 := less_any ls lx ly s1 ax ay W
        rw [hbl] at e4
        clear hll hbl hap hkk hB hk hN
        have c8a := cell_of_row W (g7 + 1) 0 _ _ _ hla
        have c8b := cell_of_row W (g7 + 1) 1 _ _ _ hla
        have c8c := cell_of_row W (g7 + 1) 2 _ _ _ hla
        have cxa := cell_of_row W B 0 _ _ _ hx
        have cxb := cell_of_row W B 1 _ _ _ hx
        have cxc := cell_of_row W B 2 _ _ _ hx
        simp only [List.getElem?_toArray, List.getElem?_cons_zero, List.getElem?_cons_succ] at c8a c8b c8c cxa cxb cxc
        have HX := Lib.hid (And.intro f1 (And.intro f4 (And.intro f5 (And.intro f6 hx))))
        clear b7 b8 bx b1 b5 b6 f1 f3 f4 f5 f6 hn hla hx
        have HE4 := Lib.hid e4
        clear e4
        gi_wp2
        refine ⟨trivial, ?_⟩
        refine (CallsIn.inRound l (callsIn_wide.2 HE4.out)).mono ?_
        rintro e w' ⟨rfl, hEx⟩
        obtain ⟨f1, f4, f5, f6, hx⟩ := HX.out
        replace f1 := hEx.blk f1
        replace f4 := hEx.blk f4
        replace f5 := hEx.blk f5
        replace f6 := hEx.blk f6
        replace hx := hEx.blk hx
        have hn := hEx.blk Hn.out
        have hla := hEx.blk Hl.out
        have HEx := Lib.hid hEx
        clear HE4 c8a c8b c8c cxa cxb cxc cn cs hr l7 hEx
        have z4 := frozen_of_row w' (g + 1 + 1 + 1) 0 _ _ f4
        have c4 := cell_of_row w' (g + 1 + 1 + 1) 0 _ _ _ f4
        have cn := cell_of_row w' g7 0 _ _ _ hn
        have z7 := frozen_of_row w' g7 0 _ _ hn
        have c8a := cell_of_row w' (g7 + 1) 0 _ _ _ hla
        have c8b := cell_of_row w' (g7 + 1) 1 _ _ _ hla
        have c8c := cell_of_row w' (g7 + 1) 2 _ _ _ hla
        have z8a := frozen_of_row w' (g7 + 1) 0 _ _ hla
        have z8b := frozen_of_row w' (g7 + 1) 1 _ _ hla
        have z8c := frozen_of_row w' (g7 + 1) 2 _ _ hla
        have cxa := cell_of_row w' B 0 _ _ _ hx
        have cxb := cell_of_row w' B 1 _ _ _ hx
        have cxc := cell_of_row w' B 2 _ _ _ hx
        have c10 := cell_of_row w' g 0 _ _ _ f1
        have c51 := cell_of_row w' g5 1 _ _ _ f5
        have c52 := cell_of_row w' g5 2 _ _ _ f5
        have c61 := cell_of_row w' (g5 + 1) 1 _ _ _ f6
        have c62 := cell_of_row w' (g5 + 1) 2 _ _ _ f6
        simp only [List.getElem?_toArray, List.getElem?_cons_zero, List.getElem?_cons_succ] at c4 cn c8a c8b c8c cxa cxb cxc c10 c51 c52 c61 c62
        clear f1 f4 f5 f6 hx hla hn
        have m1 : decide (ax < x0) = false := by simp; omega
        have m2 : decide (x1 < ax) = false := by simp; omega
        have m3 : decide (ay < y0) = false := by simp; omega
        have m4 : decide (y1 < ay) = false := by simp; omega
        have m5 : (s1 != s1) = false := by simp
        clear hb1 hb2 hb hlen
        cases bl
        · gi_wp2
          exact ⟨(KeepsFrom.of_grownBy (grown_of_ext HEx.out) (fun r e => by cases e)).trans ((KeepsOthers.setCell _ _ _).from _), .inr ⟨rfl, HLL.out trivial⟩⟩
        · gi_wp2
          have hle := ORD.out
          have hgg := HGG.out
          obtain ⟨t1, t2, t3⟩ := HAP.out
          refine ⟨(KeepsFrom.of_grownBy (grown_of_ext HEx.out) (fun r e => by cases e)).trans ((((KeepsOthers.setCell _ _ _).from _).trans ((KeepsOthers.setCell _ _ _).from _)).trans (((KeepsOthers.setCell _ _ _).from _).trans ((KeepsOthers.setCell _ _ _).from _))),
            ((((KpN.of_ext HEx.out).set _ _ (show g7 + 1 < _ by omega)).set _ _ (show g7 + 1 < _ by omega)).set _ _ (show g7 + 1 < _ by omega)).set _ _ (show g7 < _ by omega),
            ⟨⟨?_, ?_⟩, ((((Hk.out.ext HEx.out).set _ _ (List.mem_cons_of_mem _ (List.mem_singleton.2 rfl))).set _ _ (List.mem_cons_of_mem _ (List.mem_singleton.2 rfl))).set _ _ (List.mem_cons_of_mem _ (List.mem_singleton.2 rfl))).set _ _ List.mem_cons_self⟩,
            ext_set (ext_set (ext_set (ext_set (Ext.trans (show Ext w W from HBl.out) HEx.out) (show w.heap.size ≤ g7 + 1 by omega)) (show w.heap.size ≤ g7 + 1 by omega)) (show w.heap.size ≤ g7 + 1 by omega)) (show w.heap.size ≤ g7 by omega)⟩
          · rw [hq_put rfl, Below.heap_setCell _ _ _ _ (show g7 ≠ g7 + 1 by omega), Below.heap_setCell _ _ _ _ (show g7 ≠ g7 + 1 by omega), Below.heap_setCell _ _ _ _ (show g7 ≠ g7 + 1 by omega), HEx.out.blk Hn.out, List.length_append, HKK.out]
            rfl
          · rw [Below.heap_setCell _ _ _ _ (show g7 + 1 ≠ g7 by omega), hq_put rfl, hq_put rfl, hq_put rfl, HEx.out.blk Hl.out, t1, t2, t3]
            rfl
    case stop =>
      subst hIx
      rintro D c pre W hlD hsp (⟨rfl, ⟨hn, hk⟩, hB⟩ | ⟨rfl, hs⟩) hD
      · refine wpIn_wide.2 ?_
        have G4 := Lib.hid (hk _ _ F4.out rfl (by simp only [List.mem_cons, List.not_mem_nil, or_false]; have := ORD.out; omega))
        have G3 := hk _ _ F3.out rfl (by simp only [List.mem_cons, List.not_mem_nil, or_false]; have := ORD.out; omega)
        have G5 := hk _ _ F5.out rfl (by simp only [List.mem_cons, List.not_mem_nil, or_false]; have := ORD.out; omega)
        have G6 := hk _ _ F6.out rfl (by simp only [List.mem_cons, List.not_mem_nil, or_false]; have := ORD.out; omega)
        have c3 := cell_of_row W (g + 1 + 1) 0 _ _ _ G3
        have c51 := cell_of_row W g5 1 _ _ _ G5
        have c52 := cell_of_row W g5 2 _ _ _ G5
        have c61 := cell_of_row W (g5 + 1) 1 _ _ _ G6
        have c62 := cell_of_row W (g5 + 1) 2 _ _ _ G6
        have c7 := cell_of_row W g7 0 _ _ _ hn
        have c4 := cell_of_row W (g + 1 + 1 + 1) 0 _ _ _ G4.out
        have z4 := frozen_of_row W (g + 1 + 1 + 1) 0 _ _ G4.out
        simp only [List.getElem?_toArray, List.getElem?_cons_zero, List.getElem?_cons_succ] at c3 c4 c51 c52 c61 c62 c7
        have HBl := Lib.hid hB
        have HD := Lib.hid hD
        have HLD := Lib.hid hlD
        have FIN : Hid (∀ tmps : Array Value, tmps.getD 6 undef = .pointer (some ⟨g + 1 + 1 + 1, 0, none⟩) → LeavesInM Fence.wide 5 Tryd.prog Tryd.f8 tmps (fun e w' => e = Ending.returned (Value.bool true) ∧ Ext w w') [{ target := .collected D, args := #[] }] .returning (W.setCell ⟨g + 1 + 1 + 1, 0, none⟩ (.bool true))) := Lib.hid (by
          intro tmps ht
          have o1 := ORD.out
          have o3 := HLD.out
          have o5 := HGG.out
          have d1 : (W.setCell ⟨g + 1 + 1 + 1, 0, none⟩ (.bool true)).heap[D]? = some (.deferred (some [])) := by
            rw [Below.heap_setCell _ _ _ _ (fun e => ?_), HD.out]
            replace e : D = g + 1 + 1 + 1 := e
            omega
          refine ⟨by simp, .inl ⟨_, _, rfl, run_takeDeferred d1, ?_⟩⟩
          refine leave_bool (g := g + 1 + 1 + 1) (t := 6) (b := true) rfl ht (RES.out tmps ht) ?_ ⟨rfl, ?_⟩
          · rw [World.putObj_heap_other (by omega), hq_put rfl, G4.out]
            rfl
          · exact ext_put (ext_set HBl.out (by show w.heap.size ≤ g + 1 + 1 + 1; omega)) (by omega))
        clear hn hk hB hD hlD G3 G4 G5 G6 F1 F3 F4 F5 F6 F7 F8 FA FB HEW hb
        have hp1 := HN1.out
        obtain ⟨a0, ha0⟩ : ∃ a : Nat, (x1 : Int) - (x0 : Int) = (a : Int) := ⟨x1 - x0, by omega⟩
        obtain ⟨a, ha⟩ : ∃ a : Nat, (a0 : Int) + 1 = (a : Int) := ⟨a0 + 1, by omega⟩
        obtain ⟨b0, hb0⟩ : ∃ a : Nat, (y1 : Int) - (y0 : Int) = (a : Int) := ⟨y1 - y0, by omega⟩
        obtain ⟨b, hb1⟩ : ∃ a : Nat, (b0 : Int) + 1 = (a : Int) := ⟨b0 + 1, by omega⟩
        obtain ⟨p, hp⟩ : ∃ p : Nat, (a : Int) * (b : Int) = (p : Int) := ⟨a * b, by rw [Int.natCast_mul]⟩
        have hHB := HB.out
        have hpN : aN s1 s1 c1 c2 r1 r2 = p := by
          unfold aN aW
          rw [if_pos rfl, hp1.1, hp1.2.1, hp1.2.2.1, hp1.2.2.2, show y1 - y0 + 1 = b by omega, show x1 - x0 + 1 = a by omega, Nat.mul_comm]
          exact_mod_cast hp
        have hle := aN_lt s1 s1 (c := c1) (c' := c2) (r := r1) (r' := r2) (by omega) (by omega) (by omega) (by omega)
        rw [hpN] at hle
        have u0 : (a0 : Int) < 26 := by omega
        have u1 : (a : Int) < 100 := by omega
        have u2 : (b0 : Int) < 99 := by omega
        have u3 : (b : Int) < 100 := by omega
        have u4 : (p : Int) ≤ 1000000 := by omega
        clear hle hp1 hHB HN1 HB
        go_wp2_with fail
        all_goals exact FIN.out _ rfl
      · exact absurd (pre_sorted hsp) hs
    case done =>
      subst hI
      rintro D xs W hlD hxs ⟨⟨⟨hn, hla⟩, hk⟩, hB⟩ hD
      rw [hxs, List.length_finRange] at hn
      have G4 := Lib.hid (hk _ _ F4.out rfl (by simp only [List.mem_cons, List.not_mem_nil, or_false]; have := ORD.out; omega))
      have G3 := hk _ _ F3.out rfl (by simp only [List.mem_cons, List.not_mem_nil, or_false]; have := ORD.out; omega)
      have G5 := hk _ _ F5.out rfl (by simp only [List.mem_cons, List.not_mem_nil, or_false]; have := ORD.out; omega)
      have G6 := hk _ _ F6.out rfl (by simp only [List.mem_cons, List.not_mem_nil, or_false]; have := ORD.out; omega)
      have c3 := cell_of_row W (g + 1 + 1) 0 _ _ _ G3
      have c51 := cell_of_row W g5 1 _ _ _ G5
      have c52 := cell_of_row W g5 2 _ _ _ G5
      have c61 := cell_of_row W (g5 + 1) 1 _ _ _ G6
      have c62 := cell_of_row W (g5 + 1) 2 _ _ _ G6
      have c7 := cell_of_row W g7 0 _ _ _ hn
      have c4 := cell_of_row W (g + 1 + 1 + 1) 0 _ _ _ G4.out
      have z4 := frozen_of_row W (g + 1 + 1 + 1) 0 _ _ G4.out
      simp only [List.getElem?_toArray, List.getElem?_cons_zero, List.getElem?_cons_succ] at c3 c4 c51 c52 c61 c62 c7
      have HBl := Lib.hid hB
      have HD := Lib.hid hD
      have HLD := Lib.hid hlD
      have FIN : Hid (∀ tmps : Array Value, tmps.getD 6 undef = .pointer (some ⟨g + 1 + 1 + 1, 0, none⟩) → LeavesInM Fence.wide 5 Tryd.prog Tryd.f8 tmps (fun e w' => e = Ending.returned (Value.bool true) ∧ Ext w w') [{ target := .collected D, args := #[] }] .returning (W.setCell ⟨g + 1 + 1 + 1, 0, none⟩ (.bool true))) := Lib.hid (by
        intro tmps ht
        have o1 := ORD.out
        have o3 := HLD.out
        have o5 := HGG.out
        have d1 : (W.setCell ⟨g + 1 + 1 + 1, 0, none⟩ (.bool true)).heap[D]? = some (.deferred (some [])) := by
          rw [Below.heap_setCell _ _ _ _ (fun e => ?_), HD.out]
          replace e : D = g + 1 + 1 + 1 := e
          omega
        refine ⟨by simp, .inl ⟨_, _, rfl, run_takeDeferred d1, ?_⟩⟩
        refine leave_bool (g := g + 1 + 1 + 1) (t := 6) (b := true) rfl ht (RES.out tmps ht) ?_ ⟨rfl, ?_⟩
        · rw [World.putObj_heap_other (by omega), hq_put rfl, G4.out]
          rfl
        · exact ext_put (ext_set HBl.out (by show w.heap.size ≤ g + 1 + 1 + 1; omega)) (by omega))
      clear hn hk hB hD hlD G3 G4 G5 G6 F1 F3 F4 F5 F6 F7 F8 FA FB HEW hb
      have hp1 := HN1.out
      obtain ⟨a0, ha0⟩ : ∃ a : Nat, (x1 : Int) - (x0 : Int) = (a : Int) := ⟨x1 - x0, by omega⟩
      obtain ⟨a, ha⟩ : ∃ a : Nat, (a0 : Int) + 1 = (a : Int) := ⟨a0 + 1, by omega⟩
      obtain ⟨b0, hb0⟩ : ∃ a : Nat, (y1 : Int) - (y0 : Int) = (a : Int) := ⟨y1 - y0, by omega⟩
      obtain ⟨b, hb1⟩ : ∃ a : Nat, (b0 : Int) + 1 = (a : Int) := ⟨b0 + 1, by omega⟩
      obtain ⟨p, hp⟩ : ∃ p : Nat, (a : Int) * (b : Int) = (p : Int) := ⟨a * b, by rw [Int.natCast_mul]⟩
      have hHB := HB.out
      have hpN : aN s1 s1 c1 c2 r1 r2 = p := by
        unfold aN aW
        rw [if_pos rfl, hp1.1, hp1.2.1, hp1.2.2.1, hp1.2.2.2, show y1 - y0 + 1 = b by omega, show x1 - x0 + 1 = a by omega, Nat.mul_comm]
        exact_mod_cast hp
      have hle := aN_lt s1 s1 (c := c1) (c' := c2) (r := r1) (r' := r2) (by omega) (by omega) (by omega) (by omega)
      rw [hpN] at hle
      have u0 : (a0 : Int) < 26 := by omega
      have u1 : (a : Int) < 100 := by omega
      have u2 : (b0 : Int) < 99 := by omega
      have u3 : (b : Int) < 100 := by omega
      have u4 : (p : Int) ≤ 1000000 := by omega
      clear hle hp1 hHB HN1 HB
      rw [hpN] at c7
      go_wp2_with fail
      exact FIN.out _ rfl
  · have ho : ordV s1 c1 r1 s2 c2 r2 = .tuple #[ceV s1 c1 r1, ceV s2 c2 r2, .bool false] := if_neg hs
    have n7 : (s1 == s2) = false := by simpa using hs
    have e3 : CallE Tryd.prog W4 16 #[ceV s1 c1 r1, ceV s2 c2 r2] (.tuple #[ceV s1 c1 r1, ceV s2 c2 r2, .bool false]) := fun w' _ => by have := order_any s1 c1 r1 s2 c2 r2 w'; rwa [ho] at this
    have hNN : Hid (aN s1 s2 c1 c2 r1 r2 = 0) := Lib.hid (aN_none _ _ _ _ hs)
    have HB : Hid ((c1 < 26 ∧ r1 < 99) ∧ c2 < 26 ∧ r2 < 99) := Lib.hid (by omega)
    clear ho p1 p2 p3 p4 p5 p6 p7 p8 p9 p10 p11 p12 hs
    go_upto_region 6 with (first | ((with_reducible refine (CallE.at_ (by assumption) (by assumption)).mono ?_); rintro e w' ⟨rfl, hEx⟩))
    obtain ⟨W5, hW5, hE5, hG5, hL5, hS5⟩ := new_blk w' #[.int .i64 s1, .int .i64 (c1 : Int), .int .i64 (r1 : Int)] 23
    obtain ⟨W6, hW6, hE6, hG6, hL6, hS6⟩ := new_blk W5 #[.int .i64 s2, .int .i64 (c2 : Int), .int .i64 (r2 : Int)] 23
    rw [hW5, hW6]
    rw [hS5] at hG6
    obtain ⟨g5, hg5⟩ : ∃ k, w'.heap.size = k := ⟨_, rfl⟩
    rw [hg5] at hG5 hG6 ⊢
    have E46 := hEx.trans (hE5.trans hE6)
    have k1 := E46.blk H1.out
    have k2 := E46.blk H2.out
    have K5 := Lib.hid (hE6.blk hG5)
    have K6 := Lib.hid hG6
    have HL5 : Hid (W4.heap.size ≤ g5) := Lib.hid (by rw [← hg5]; exact hEx.size)
    have HE46 := Lib.hid E46
    clear hW5 hE5 hG5 hL5 hS5 hW6 hE6 hG6 hL6 hS6 hg5 hr hEx E46 e0 e1 e2 e3 b1 b2 b4 l1 l2 l4
    have c10 := cell_of_row W6 g 0 _ _ _ k1
    have c11 := cell_of_row W6 g 1 _ _ _ k1
    have c12 := cell_of_row W6 g 2 _ _ _ k1
    have c20 := cell_of_row W6 (g + 1) 0 _ _ _ k2
    have c21 := cell_of_row W6 (g + 1) 1 _ _ _ k2
    have c22 := cell_of_row W6 (g + 1) 2 _ _ _ k2
    have c51 := cell_of_row W6 g5 1 _ _ _ K5.out
    have c52 := cell_of_row W6 g5 2 _ _ _ K5.out
    have c61 := cell_of_row W6 (g5 + 1) 1 _ _ _ K6.out
    have c62 := cell_of_row W6 (g5 + 1) 2 _ _ _ K6.out
    simp only [List.getElem?_toArray, List.getElem?_cons_zero, List.getElem?_cons_succ] at c10 c11 c12 c20 c21 c22 c51 c52 c61 c62
    clear k1 k2
    obtain ⟨W7, hW7, hE7, hG7, hL7, hS7⟩ := new_blk W6 #[.int .i64 0] 3
    obtain ⟨W8, hW8, hE8, hG8, hL8, hS8⟩ := new_blk W7 #[.int .i64 (-1), .int .i64 0, .int .i64 0] 23
    obtain ⟨g7, hg7⟩ : ∃ k, W6.heap.size = k := ⟨_, rfl⟩
    rw [hS7] at hG8
    rw [hg7] at hG7 hG8
    have HW7 := Lib.hid hW7
    have HW8 := Lib.hid hW8
    have HG7 := Lib.hid hg7
    have E68 := hE7.trans hE8
    have hE48 := HE46.out.trans E68
    have J1 := Lib.hid (hE48.blk H1.out)
    have J2 := Lib.hid (hE48.blk H2.out)
    have J3 := Lib.hid (hE48.blk H3.out)
    have J4 := Lib.hid (hE48.blk H4.out)
    have J5 := Lib.hid (E68.blk K5.out)
    have J6 := Lib.hid (E68.blk K6.out)
    have J7 := Lib.hid (hE8.blk hG7)
    have J8 := Lib.hid hG8
    have HE48 := Lib.hid hE48
    have HORD : Hid (g + 1 + 1 + 1 < g5 ∧ g5 + 1 < g7) := Lib.hid ⟨Nat.lt_of_lt_of_le (blk_lt H4.out) HL5.out, by rw [← hg7]; exact blk_lt K6.out⟩
    have j1 := J1.out
    have j2 := J2.out
    have d10 := cell_of_row W8 g 0 _ _ _ j1
    have d11 := cell_of_row W8 g 1 _ _ _ j1
    have d12 := cell_of_row W8 g 2 _ _ _ j1
    have d20 := cell_of_row W8 (g + 1) 0 _ _ _ j2
    have d21 := cell_of_row W8 (g + 1) 1 _ _ _ j2
    have d22 := cell_of_row W8 (g + 1) 2 _ _ _ j2
    simp only [List.getElem?_toArray, List.getElem?_cons_zero, List.getElem?_cons_succ] at d10 d11 d12 d20 d21 d22
    clear hW7 hE7 hG7 hL7 hS7 hW8 hE8 hG8 hL8 hS8 hg7 E68 hE48 H1 H2 H3 H4 K5 K6 HE46 HL5 j1 j2
    go_upto_region 9 with (fail)
    rw [HW7.out, HW8.out, HG7.out]
    clear HW7 HW8 HG7 c10 c11 c12 c20 c21 c22 c51 c52 c61 c62
    go_wp2_with fail
    refine (cells_any _ _ _ _ _ _ _).mono ?_
    rintro e w' ⟨rfl, rfl⟩
    obtain ⟨W9, hW9, hE9, hG9, hL9, hS9⟩ := new_blk W8 #[.int .i64 s1, .int .i64 (c1 : Int), .int .i64 (r1 : Int)] 23
    obtain ⟨W10, hW10, hE10, hG10, hL10, hS10⟩ := new_blk W9 #[.int .i64 s2, .int .i64 (c2 : Int), .int .i64 (r2 : Int)] 23
    rw [hW9, hW10]
    rw [hS9] at hG10
    obtain ⟨g9, hg9⟩ : ∃ k, W8.heap.size = k := ⟨_, rfl⟩
    rw [hg9] at hG9 hG10 ⊢
    have E810 := hE9.trans hE10
    have F1 := Lib.hid (E810.blk J1.out)
    have F3 := Lib.hid (E810.blk J3.out)
    have F4 := Lib.hid (E810.blk J4.out)
    have F5 := Lib.hid (E810.blk J5.out)
    have F6 := Lib.hid (E810.blk J6.out)
    have F7 := Lib.hid (E810.blk J7.out)
    have F8 := Lib.hid (E810.blk J8.out)
    have FA := Lib.hid (hE10.blk hG9)
    have FB := Lib.hid hG10
    have HEW := Lib.hid (HE3.out.trans (HE48.out.trans E810))
    have ORD : Hid (g + 1 + 1 + 1 < g5 ∧ g5 + 1 < g7 ∧ g7 + 1 < g9 ∧ g9 + 1 < W10.heap.size) := Lib.hid ⟨HORD.out.1, HORD.out.2, by rw [← hg9]; exact blk_lt J8.out, blk_lt hG10⟩
    clear hE9 hG9 hL9 hS9 hW9 hE10 hG10 hL10 hS10 hW10 hg9 E810 J1 J2 J3 J4 J5 J6 J7 J8 HE48 HORD HE3 HM d10 d11 d12 d20 d21 d22
    go_wp2_with fail
    refine (wpIn_wide (n := 5)).1 ?_
    have hb := HB.out
    obtain ⟨I, hI⟩ : ∃ I : List (Fin (aN s1 s2 c1 c2 r1 r2)) → World → Prop, I = fun pre W => (((W.heap[g7]? = some (.cells #[.int .i64 (pre.length : Int)] 3 (0, 0)) ∧ W.heap[g7 + 1]? = some (.cells #[.int .i64 (lastS s1 pre), .int .i64 (lastX c1 c2 pre), .int .i64 (lastY c1 c2 r1 r2 pre)] 23 (0, 0))) ∧ KeptC [g7, g7 + 1] W10 W) ∧ Below w.heap.size w W) := ⟨_, rfl⟩
    obtain ⟨Ix, hIx⟩ : ∃ Ix : Code → List (Fin (aN s1 s2 c1 c2 r1 r2)) → World → Prop, Ix = fun _ _ _ => False := ⟨_, rfl⟩
    refine range_boxed (n := 5) 12 (by omega) rfl (enters_of Tryd.func22 (by kernel_rfl) rfl) (cells_stops 4 g9 (g9 + 1) s1 s2 c1 c2 r1 r2 (by omega) (by omega) (by omega) (by omega) (by omega) W10 FA.out FB.out)
      I Ix ?ownI ?ownX ?start
      (fun x B W => g9 < B ∧ W.heap[B]? = some (.cells #[.int .i64 s1, .int .i64 (aX c1 c2 x.1 : Nat), .int .i64 (aY c1 c2 r1 r2 x.1 : Nat)] 23 (0, 0)))
      (fun x B => OwnFrom.and (ownFrom_pure _ (fun _ => g9 < B)) (Own.from (heap_own B (fun _ : Unit => #[.int .i64 s1, .int .i64 (aX c1 c2 x.1 : Nat), .int .i64 (aY c1 c2 r1 r2 x.1 : Nat)]) 23) _)) ?assign ?body ?done ?stop
    case ownI =>
      subst hI
      exact OwnFrom.and (OwnFrom.and (OwnFrom.and (Own.from (heap_own g7 (fun pre : List (Fin (aN s1 s2 c1 c2 r1 r2)) => #[.int .i64 (pre.length : Int)]) 3) _) (Own.from (heap_own (g7 + 1) (fun pre : List (Fin (aN s1 s2 c1 c2 r1 r2)) => #[.int .i64 (lastS s1 pre), .int .i64 (lastX c1 c2 pre), .int .i64 (lastY c1 c2 r1 r2 pre)]) 23) _)) (Own.from (KeptC.own _ _) _)) (ownFrom_below (Nat.le_refl _) HEW.out.size)
    case ownX =>
      subst hIx
      exact fun _ _ _ _ _ hs _ _ => hs
    case start =>
      subst hI
      exact ⟨⟨⟨F7.out, F8.out⟩, KeptC.refl _ _⟩, HEW.out⟩

    case assign =>
      rintro l pre x W K hI0 hK
      exact absurd x.2 (by have := hNN.out; omega)
    case body =>
      rintro l pre x B W hI0 hz hlen
      exact absurd x.2 (by have := hNN.out; omega)
    case stop =>
      subst hIx
      rintro D c pre W hlD hsp hs hD
      exact hs.elim
    case done =>
      subst hI
      rintro D xs W hlD hxs ⟨⟨⟨hn, hla⟩, hk⟩, hB⟩ hD
      rw [hxs, List.length_finRange] at hn
      have G4 := Lib.hid (hk _ _ F4.out rfl (by simp only [List.mem_cons, List.not_mem_nil, or_false]; have := ORD.out; omega))
      have G3 := hk _ _ F3.out rfl (by simp only [List.mem_cons, List.not_mem_nil, or_false]; have := ORD.out; omega)
      have G5 := hk _ _ F5.out rfl (by simp only [List.mem_cons, List.not_mem_nil, or_false]; have := ORD.out; omega)
      have G6 := hk _ _ F6.out rfl (by simp only [List.mem_cons, List.not_mem_nil, or_false]; have := ORD.out; omega)
      have c3 := cell_of_row W (g + 1 + 1) 0 _ _ _ G3
      have c51 := cell_of_row W g5 1 _ _ _ G5
      have c52 := cell_of_row W g5 2 _ _ _ G5
      have c61 := cell_of_row W (g5 + 1) 1 _ _ _ G6
      have c62 := cell_of_row W (g5 + 1) 2 _ _ _ G6
      have c7 := cell_of_row W g7 0 _ _ _ hn
      have c4 := cell_of_row W (g + 1 + 1 + 1) 0 _ _ _ G4.out
      have z4 := frozen_of_row W (g + 1 + 1 + 1) 0 _ _ G4.out
      simp only [List.getElem?_toArray, List.getElem?_cons_zero, List.getElem?_cons_succ] at c3 c4 c51 c52 c61 c62 c7
      have HBl := Lib.hid hB
      have HD := Lib.hid hD
      have HLD := Lib.hid hlD
      have FIN : Hid (∀ tmps : Array Value, tmps.getD 6 undef = .pointer (some ⟨g + 1 + 1 + 1, 0, none⟩) → LeavesInM Fence.wide 5 Tryd.prog Tryd.f8 tmps (fun e w' => e = Ending.returned (Value.bool true) ∧ Ext w w') [{ target := .collected D, args := #[] }] .returning (W.setCell ⟨g + 1 + 1 + 1, 0, none⟩ (.bool true))) := Lib.hid (by
        intro tmps ht
        have o1 := ORD.out
        have o3 := HLD.out
        have o5 := HGG.out
        have d1 : (W.setCell ⟨g + 1 + 1 + 1, 0, none⟩ (.bool true)).heap[D]? = some (.deferred (some [])) := by
          rw [Below.heap_setCell _ _ _ _ (fun e => ?_), HD.out]
          replace e : D = g + 1 + 1 + 1 := e
          omega
        refine ⟨by simp, .inl ⟨_, _, rfl, run_takeDeferred d1, ?_⟩⟩
        refine leave_bool (g := g + 1 + 1 + 1) (t := 6) (b := true) rfl ht (RES.out tmps ht) ?_ ⟨rfl, ?_⟩
        · rw [World.putObj_heap_other (by omega), hq_put rfl, G4.out]
          rfl
        · exact ext_put (ext_set HBl.out (by show w.heap.size ≤ g + 1 + 1 + 1; omega)) (by omega))
      clear hn hk hB hD hlD G3 G4 G5 G6 F1 F3 F4 F5 F6 F7 F8 FA FB HEW hb
      rw [hNN.out] at c7
      go_wp2_with fail
      exact FIN.out _ rfl
theorem walk (a b : Cl) (st : Int) (w : World) (wa : a.wf) (wb : b.wf) (wn : (Lit.int .i64 st).wf = true) (hm : MaxI w) :
    Calls Tryd.prog 8 #[ceV a.s a.c a.r, ceV b.s b.c b.r, .int .i64 st] w fun e w' => e = .returned (.bool true) ∧ Below w.heap.size w w' := walk0 _ _ _ _ _ _ _ w hm
end Go.Proofs.YtkbcdnndhglnoaaDoor.addrAreas
