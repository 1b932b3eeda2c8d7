/-
  AddrTurned: walk. Conditions: the arguments' own.
-/
import Derived.Test.YtkbcdnndhglnoaaDoorAddrG
import Derived.Test.YtkbcdnndhglnoaaDoorAddrE
namespace Go.Proofs.YtkbcdnndhglnoaaDoor.addrTurned
open Go.RowKit
set_option linter.unusedVariables false
set_option linter.unusedSimpArgs false
attribute [local go_sem] Oper.semAt_some

set_option maxHeartbeats 8000000 in
set_option maxRecDepth 100000 in
theorem walk0 (s1 c1 r1 s2 c2 r2 : Int) (w : World) (hm : MaxI w) :
    Calls Tryd.prog 7 #[ceV s1 c1 r1, ceV s2 c2 r2] w fun e w' => e = .returned (.bool true) ∧ Ext w w' := by
  obtain ⟨W1, hW1, hE1, hG1, hL1, hS1⟩ := new_blk w #[.int .i64 s1, .int .i64 c1, .int .i64 r1] 23
  obtain ⟨W2, hW2, hE2, hG2, hL2, hS2⟩ := new_blk W1 #[.int .i64 s2, .int .i64 c2, .int .i64 r2] 23
  obtain ⟨W3, hW3, hE3, hG3, hL3, hS3⟩ := new_blk W2 #[.bool false] 4
  obtain ⟨g, hg⟩ : ∃ g, w.heap.size = g := ⟨_, rfl⟩
  rw [hS1] at hG2
  rw [hS2, hS1] at hG3
  rw [hg] at hG1 hG2 hG3
  have HW1 := Lib.hid hW1
  have HW2 := Lib.hid hW2
  have HW3 := Lib.hid hW3
  have E03 := hE1.trans (hE2.trans hE3)
  have HE3 := Lib.hid E03
  have HM := Lib.hid (hm.ext E03)
  have HG := Lib.hid hg
  have b1 := ext_blk (hE3.blk (hE2.blk hG1))
  have b2 := ext_blk (hE3.blk hG2)
  have b3 := ext_blk hG3
  have l1 := ext_lt (blk_lt (hE3.blk (hE2.blk hG1)))
  have l2 := ext_lt (blk_lt (hE3.blk hG2))
  have l3 := ext_lt (blk_lt hG3)
  have H1 := Lib.hid (hE3.blk (hE2.blk hG1))
  have H2 := Lib.hid (hE3.blk hG2)
  have H3 := Lib.hid hG3
  have e0 : CallE Tryd.prog W3 9 #[] (.bool true) := fun w' hE => fit_a w' (HM.out.ext hE)
  have e1 : CallE Tryd.prog W3 _ _ _ := fun w' _ => lright_any s1 c1 r1 w'
  have e2 : CallE Tryd.prog W3 _ _ _ := fun w' _ => lright_any s2 c2 r2 w'
  have B1 := Lib.hid (fun h => ins_bd (s := s1) (c := c1) (r := r1) h)
  have B2 := Lib.hid (fun h => ins_bd (s := s2) (c := c2) (r := r2) h)
  generalize insV s1 c1 r1 = i1 at *
  generalize insV s2 c2 r2 = i2 at *
  have hr := Ext.refl W3
  have z3 := ext_frozen (blk_lt hG3) (frozen_of_row W3 (g + 1 + 1) 0 _ _ hG3)
  have HGG := Lib.hid hg
  clear hW1 hW2 hW3 hE1 hE2 hE3 hG1 hG2 hG3 hL1 hL2 hL3 hS1 hS2 hS3 hm E03 hg
  refine (callsIn_wide (n := 5)).1 ?_
  refine callsIn_of_wp_marks Tryd.func7 rfl trivial ?_ rfl
  simp only [Tryd.ntmps7, List.size_toArray, List.length_cons, List.length_nil, Nat.reduceAdd, Nat.reduceSub, Array.replicate_succ, Array.replicate_zero, List.push_toArray, List.append_toArray, List.nil_append, List.cons_append]
  refine wpIn_wide.2 ?_
  go_wp2_with fail
  rw [HW1.out, HW2.out, HW3.out, HG.out]
  clear HW1 HW2 HW3 HG
  have RES : Hid (∀ (tmps : Array Value), tmps.getD 4 undef = .pointer (some ⟨g + 1 + 1, 0, none⟩) → ∀ W v, W.cell? ⟨g + 1 + 1, 0, none⟩ = some (.bool v) → (results Tryd.f7 tmps).run Tryd.prog W = .ok (.bool v) W) := Lib.hid (by
    intro tmps ht W v h
    rw [Array.getD_eq_getD_getElem?] at ht
    simp [results, Tryd.results7, go_sem, ht, h])
  have EARLY : Hid (∀ w' (tmps : Array Value), Ext W3 w' → tmps.getD 4 undef = .pointer (some ⟨g + 1 + 1, 0, none⟩) → bodyPostM Fence.wide 5 Tryd.prog Tryd.f7 (fun e w' => e = Ending.returned (Value.bool true) ∧ Ext w w') Exit.ret { tmps := tmps, defers := [] } (w'.setCell ⟨g + 1 + 1, 0, none⟩ (.bool true))) := Lib.hid (by
    intro w' tmps hE ht
    have hb := hE.blk H3.out
    refine leave_bool (g := g + 1 + 1) (t := 4) (b := true) rfl ht (RES.out tmps ht) (by rw [hq_put rfl, hb]; rfl) ⟨rfl, ?_⟩
    exact ext_set (HE3.out.trans hE) (by have := HGG.out; show w.heap.size ≤ g + 1 + 1; omega))
  cases i1
  · go_wp2_with (first | ((with_reducible refine (CallE.at_ (by assumption) (by assumption)).mono ?_); rintro e w' ⟨rfl, hEx⟩))
    exact EARLY.out _ _ hEx rfl
  cases i2
  · go_wp2_with (first | ((with_reducible refine (CallE.at_ (by assumption) (by assumption)).mono ?_); rintro e w' ⟨rfl, hEx⟩))
    exact EARLY.out _ _ hEx rfl
  clear EARLY z3
  obtain ⟨⟨p1, p2⟩, ⟨p3, p4⟩, p5, p6⟩ := B1.out rfl
  obtain ⟨⟨p7, p8⟩, ⟨p9, p10⟩, p11, p12⟩ := B2.out rfl
  clear B1 B2
  obtain ⟨c1, rfl⟩ : ∃ k : Nat, c1 = (k : Int) := ⟨c1.toNat, by omega⟩
  obtain ⟨r1, rfl⟩ : ∃ k : Nat, r1 = (k : Int) := ⟨r1.toNat, by omega⟩
  obtain ⟨c2, rfl⟩ : ∃ k : Nat, c2 = (k : Int) := ⟨c2.toNat, by omega⟩
  obtain ⟨r2, rfl⟩ : ∃ k : Nat, r2 = (k : Int) := ⟨r2.toNat, by omega⟩
  obtain ⟨xs, xc, xr, ys, yc, yr, us, uc, ur, vs, vc, vr, ok, ho1, ho2, hok⟩ : ∃ xs xc xr ys yc yr us uc ur vs vc vr ok, ordV s1 c1 r1 s2 c2 r2 = .tuple #[ceV xs xc xr, ceV ys yc yr, .bool ok] ∧ ordV s2 c2 r2 s1 c1 r1 = .tuple #[ceV us uc ur, ceV vs vc vr, .bool ok] ∧
      ((ok = true ∧ (xs = us ∧ xc = uc ∧ xr = ur) ∧ (ys = vs ∧ yc = vc ∧ yr = vr) ∧ s1 = s2) ∨ (ok = false ∧ s1 ≠ s2)) := by
    by_cases h : s1 = s2
    · subst h
      refine ⟨_, _, _, _, _, _, _, _, _, _, _, _, _, if_pos rfl, if_pos rfl, .inl ⟨rfl, ⟨rfl, ?_, ?_⟩, ⟨rfl, ?_, ?_⟩, rfl⟩⟩ <;> omega
    · exact ⟨_, _, _, _, _, _, _, _, _, _, _, _, _, if_neg h, if_neg (fun e => h e.symm), .inr ⟨rfl, h⟩⟩
  have e3 : CallE Tryd.prog W3 16 #[ceV s1 c1 r1, ceV s2 c2 r2] (.tuple #[ceV xs xc xr, ceV ys yc yr, .bool ok]) := fun w' _ => by have := order_any s1 c1 r1 s2 c2 r2 w'; rwa [ho1] at this
  have e4 : CallE Tryd.prog W3 16 #[ceV s2 c2 r2, ceV s1 c1 r1] (.tuple #[ceV us uc ur, ceV vs vc vr, .bool ok]) := fun w' _ => by have := order_any s2 c2 r2 s1 c1 r1 w'; rwa [ho2] at this
  have HO := Lib.hid hok
  have HB : Hid ((c1 < 1000 ∧ r1 < 1000) ∧ c2 < 1000 ∧ r2 < 1000) := Lib.hid (by omega)
  clear ho1 ho2 hok p1 p2 p3 p4 p5 p6 p7 p8 p9 p10 p11 p12
  go_upto_region 6 with (first | ((with_reducible refine (CallE.at_ (by assumption) (by assumption)).mono ?_); rintro e w' ⟨rfl, hEx⟩))
  obtain ⟨W4, hW4, hE4, hG4, hL4, hS4⟩ := new_blk w' #[.int .i64 xs, .int .i64 xc, .int .i64 xr] 23
  obtain ⟨W5, hW5, hE5, hG5, hL5, hS5⟩ := new_blk W4 #[.int .i64 ys, .int .i64 yc, .int .i64 yr] 23
  rw [hW4, hW5]
  rw [hS4] at hG5
  obtain ⟨g5, hg5⟩ : ∃ k, w'.heap.size = k := ⟨_, rfl⟩
  rw [hg5] at hG4 hG5 ⊢
  have H4 := Lib.hid (hE5.blk hG4)
  have H5 := Lib.hid hG5
  have hE35 := hEx.trans (hE4.trans hE5)
  have HL5 : Hid (W3.heap.size ≤ g5) := Lib.hid (by rw [← hg5]; exact hEx.size)
  clear hW4 hE4 hG4 hL4 hS4 hW5 hE5 hG5 hL5 hS5 hg5 hr hEx
  go_upto_region 7 with (first | ((with_reducible refine (CallE.call (by assumption) (by assumption)).mono ?_); rintro e w' ⟨rfl, hEx⟩))
  obtain ⟨W6, hW6, hE6, hG6, hL6, hS6⟩ := new_blk w' #[.int .i64 us, .int .i64 uc, .int .i64 ur] 23
  obtain ⟨W7, hW7, hE7, hG7, hL7, hS7⟩ := new_blk W6 #[.int .i64 vs, .int .i64 vc, .int .i64 vr] 23
  rw [hW6, hW7]
  rw [hS6] at hG7
  obtain ⟨g7, hg7⟩ : ∃ k, w'.heap.size = k := ⟨_, rfl⟩
  rw [hg7] at hG6 hG7 ⊢
  have E57 := hEx.trans (hE6.trans hE7)
  have hE37 := hE35.trans E57
  have H6 := Lib.hid (hE7.blk hG6)
  have H7 := Lib.hid hG7
  have H4' := Lib.hid (E57.blk H4.out)
  have H5' := Lib.hid (E57.blk H5.out)
  have HL7 : Hid (W5.heap.size ≤ g7) := Lib.hid (by rw [← hg7]; exact hEx.size)
  have HORD : Hid (g5 + 1 < g7) := Lib.hid (Nat.lt_of_lt_of_le (blk_lt H5.out) HL7.out)
  clear hW6 hE6 hG6 hL6 hS6 hW7 hE7 hG7 hL7 hS7 hg7 hEx E57 H4 H5 hE35
  obtain ⟨W8, hW8, hE8, hG8, hL8, hS8⟩ := new_blk W7 #[.int .i64 0] 3
  obtain ⟨W9, hW9, hE9, hG9, hL9, hS9⟩ := new_blk W8 #[.int .i64 0] 3
  obtain ⟨g9, hg9⟩ : ∃ k, W7.heap.size = k := ⟨_, rfl⟩
  rw [hS8] at hG9
  rw [hg9] at hG8 hG9
  have HW8 := Lib.hid hW8
  have HW9 := Lib.hid hW9
  have HG9 := Lib.hid hg9
  have HORD7 : Hid (g7 + 1 < g9) := Lib.hid (by rw [← hg9]; exact blk_lt H7.out)
  have H8 := Lib.hid (hE9.blk hG8)
  have H9 := Lib.hid hG9
  have E79 := hE8.trans hE9
  have H4 := Lib.hid (E79.blk H4'.out)
  have H5 := Lib.hid (E79.blk H5'.out)
  replace H6 := Lib.hid (E79.blk H6.out)
  replace H7 := Lib.hid (E79.blk H7.out)
  have hE39 := hE37.trans E79
  clear hW8 hE8 hG8 hL8 hS8 hW9 hE9 hG9 hL9 hS9 hg9 E79 H4' H5' hE37 e0 e1 e2 e3 e4
  go_upto_region 8 with (fail)
  rw [HW8.out, HW9.out, HG9.out]
  clear HW8 HW9
  go_wp2_with fail
  refine (cells_any _ _ _ _ _ _ _).mono ?_
  rintro e w' ⟨rfl, rfl⟩
  obtain ⟨W10, hW10, hE10, hG10, hL10, hS10⟩ := new_blk W9 #[.int .i64 s1, .int .i64 (c1 : Int), .int .i64 (r1 : Int)] 23
  obtain ⟨W11, hW11, hE11, hG11, hL11, hS11⟩ := new_blk W10 #[.int .i64 s2, .int .i64 (c2 : Int), .int .i64 (r2 : Int)] 23
  rw [hW10, hW11]
  rw [hS10] at hG11
  obtain ⟨g11, hg11⟩ : ∃ k, W9.heap.size = k := ⟨_, rfl⟩
  rw [hg11] at hG10 hG11 ⊢
  have E911 := hE10.trans hE11
  have E311 := hE39.trans E911
  have F1 := Lib.hid (E311.blk H1.out)
  have F2 := Lib.hid (E311.blk H2.out)
  have F3 := Lib.hid (E311.blk H3.out)
  have F4 := Lib.hid (E911.blk H4.out)
  have F5 := Lib.hid (E911.blk H5.out)
  have F6 := Lib.hid (E911.blk H6.out)
  have F7 := Lib.hid (E911.blk H7.out)
  have F8 := Lib.hid (E911.blk H8.out)
  have F9 := Lib.hid (E911.blk H9.out)
  have FA := Lib.hid (hE11.blk hG10)
  have FB := Lib.hid hG11
  have HEW := Lib.hid (HE3.out.trans E311)
  have ORD : Hid (g + 1 + 1 < g5 ∧ g5 + 1 < g7 ∧ g7 + 1 < g9 ∧ g9 + 1 < g11 ∧ g11 + 1 < W11.heap.size) := Lib.hid ⟨by have := blk_lt H3.out; have := HL5.out; omega, by have := HORD.out; omega, by have := HORD7.out; omega, by have := blk_lt H9.out; omega, blk_lt hG11⟩
  clear H1 H2 H3 H4 H5 H6 H7 H8 H9 hE10 hG10 hL10 hS10 hW10 hE11 hG11 hL11 hS11 hW11 hg11 E911 E311 hE39 HL5 HORD HORD7 HE3 l1 l2 l3 b1 b2 b3 HG9 HL7 HM
  go_wp2_with fail
  refine (wpIn_wide (n := 5)).1 ?_
  obtain ⟨⟨hb1, hb2⟩, hb3, hb4⟩ := HB.out
  refine range_plain (n := 5) (by omega) rfl (enters_of Tryd.func22 (by kernel_rfl) rfl) (cells_stops 4 g11 (g11 + 1) s1 s2 c1 c2 r1 r2 (by omega) hb1 hb3 hb2 hb4 W11 FA.out FB.out)
    (fun pre W => (W.heap[g9]? = some (.cells #[.int .i64 (pre.length : Int)] 3 (0, 0)) ∧ KeptC [g9] W11 W) ∧ Below w.heap.size w W) (fun _ _ _ => False)
    (OwnFrom.and (OwnFrom.and (Own.from (heap_own g9 (fun pre : List (Fin (aN s1 s2 c1 c2 r1 r2)) => #[.int .i64 (pre.length : Int)]) 3) _) (Own.from (KeptC.own _ _) _)) (ownFrom_below (Nat.le_refl _) HEW.out.size))
    (fun _ _ _ _ _ hs _ _ => hs) ⟨⟨F8.out, KeptC.refl _ _⟩, HEW.out⟩ ?assign ?body ?done ?stop
  case assign =>
    intro l x W K hK
    gi_wp2
    exact hK
  case stop =>
    rintro D c pre W _ _ h _
    exact h.elim
  case body =>
    rintro l pre x W ⟨⟨hn, hk⟩, hB⟩ hlen
    simp only [List.setIfInBounds_toArray, List.set_cons_zero, List.set_cons_succ]
    have c9 := cell_of_row W g9 0 _ _ _ hn
    have z9 := frozen_of_row W g9 0 _ _ hn
    simp only [List.getElem?_toArray, List.getElem?_cons_zero, List.getElem?_cons_succ] at c9
    have hN := aN_lt s1 s2 hb1 hb3 hb2 hb4
    obtain ⟨k, hkk⟩ : ∃ k, pre.length = k := ⟨_, rfl⟩
    rw [hkk] at hn hlen c9
    have Hn := Lib.hid hn
    have Hk := Lib.hid hk
    have HBl := Lib.hid hB
    have hk1 : (k : Int) < 1000000 := by omega
    clear hn hk hB hlen hN
    gi_wp2
    have hle := ORD.out
    refine ⟨(KeepsOthers.setCell _ _ _).from _, (KpN.refl _ W).set _ _ (show g9 < _ by omega), ⟨?_, Hk.out.set _ _ (List.mem_singleton.2 rfl)⟩, HBl.out.setCell (show w.heap.size ≤ g9 by have := HGG.out; omega) _⟩
    rw [hq_put rfl, Hn.out, List.length_append, hkk]
    rfl
  case done =>
    rintro D1 xs1 W hlD1 hxs ⟨⟨hn, hk⟩, hB⟩ hD1
    rw [hxs, List.length_finRange] at hn
    have G8 := Lib.hid hn
    have G1 := Lib.hid (hk _ _ F1.out rfl (by simp only [List.mem_singleton]; have := ORD.out; omega))
    have G2 := Lib.hid (hk _ _ F2.out rfl (by simp only [List.mem_singleton]; have := ORD.out; omega))
    have G3 := Lib.hid (hk _ _ F3.out rfl (by simp only [List.mem_singleton]; have := ORD.out; omega))
    have G4 := Lib.hid (hk _ _ F4.out rfl (by simp only [List.mem_singleton]; have := ORD.out; omega))
    have G5 := Lib.hid (hk _ _ F5.out rfl (by simp only [List.mem_singleton]; have := ORD.out; omega))
    have G6 := Lib.hid (hk _ _ F6.out rfl (by simp only [List.mem_singleton]; have := ORD.out; omega))
    have G7 := Lib.hid (hk _ _ F7.out rfl (by simp only [List.mem_singleton]; have := ORD.out; omega))
    have G9 := Lib.hid (hk _ _ F9.out rfl (by simp only [List.mem_singleton]; have := ORD.out; omega))
    have HEW' : Hid (Ext w W) := Lib.hid hB
    have HD1 := Lib.hid hD1
    have HLD1 := Lib.hid hlD1
    have HSZ : Hid (g11 + 1 < W.heap.size) := Lib.hid (by have := blk_lt hD1; have := ORD.out; omega)
    have c10 := cell_of_row W g 0 _ _ _ G1.out
    have c11 := cell_of_row W g 1 _ _ _ G1.out
    have c12 := cell_of_row W g 2 _ _ _ G1.out
    have c20 := cell_of_row W (g + 1) 0 _ _ _ G2.out
    have c21 := cell_of_row W (g + 1) 1 _ _ _ G2.out
    have c22 := cell_of_row W (g + 1) 2 _ _ _ G2.out
    simp only [List.getElem?_toArray, List.getElem?_cons_zero, List.getElem?_cons_succ] at c10 c11 c12 c20 c21 c22
    clear hn hk hB hD1 hlD1 hxs F1 F2 F3 F4 F5 F6 F7 F8 F9 FA FB HEW hb1 hb2 hb3 hb4
    go_wp2_with fail
    refine (cells_any _ _ _ _ _ _ _).mono ?_
    rintro e w' ⟨rfl, rfl⟩
    obtain ⟨W12, hW12, hE12, hG12, hL12, hS12⟩ := new_blk W #[.int .i64 s2, .int .i64 (c2 : Int), .int .i64 (r2 : Int)] 23
    obtain ⟨W13, hW13, hE13, hG13, hL13, hS13⟩ := new_blk W12 #[.int .i64 s1, .int .i64 (c1 : Int), .int .i64 (r1 : Int)] 23
    rw [hW12, hW13]
    rw [hS12] at hG13
    obtain ⟨g13, hg13⟩ : ∃ k, W.heap.size = k := ⟨_, rfl⟩
    rw [hg13] at hG12 hG13 ⊢
    have E13 := hE12.trans hE13
    have F1 := Lib.hid (E13.blk G1.out)
    have F2 := Lib.hid (E13.blk G2.out)
    have F3 := Lib.hid (E13.blk G3.out)
    have F4 := Lib.hid (E13.blk G4.out)
    have F5 := Lib.hid (E13.blk G5.out)
    have F6 := Lib.hid (E13.blk G6.out)
    have F7 := Lib.hid (E13.blk G7.out)
    have F8 := Lib.hid (E13.blk G8.out)
    have F9 := Lib.hid (E13.blk G9.out)
    have FD := Lib.hid (E13.blk HD1.out)
    have FA := Lib.hid (hE13.blk hG12)
    have FB := Lib.hid hG13
    have HEW := Lib.hid (HEW'.out.trans E13)
    have ORD2 : Hid (g11 + 1 < g13 ∧ g13 + 1 < W13.heap.size ∧ D1 < g13) := Lib.hid ⟨by have := HSZ.out; omega, blk_lt hG13, by have := blk_lt HD1.out; omega⟩
    clear c10 c11 c12 c20 c21 c22 hE12 hG12 hL12 hS12 hW12 hE13 hG13 hL13 hS13 hW13 hg13 E13 G1 G2 G3 G4 G5 G6 G7 G8 G9 HEW' HD1
    go_wp2_with fail
    refine (wpIn_wide (n := 5)).1 ?_
    obtain ⟨⟨hb1, hb2⟩, hb3, hb4⟩ := HB.out
    refine range_boxed (n := 5) 13 (by omega) rfl (enters_of Tryd.func22 (by kernel_rfl) rfl) (cells_stops 4 g13 (g13 + 1) s2 s1 c2 c1 r2 r1 (by omega) hb3 hb1 hb4 hb2 W13 FA.out FB.out)
      (fun pre W => (W.heap[g9 + 1]? = some (.cells #[.int .i64 (pre.length : Int)] 3 (0, 0)) ∧ KeptC [g9 + 1] W13 W) ∧ Below w.heap.size w W ∧ W.heap[D1]? = some (.deferred (some []))) (fun _ _ _ => False)
      ?own (fun _ _ _ _ _ hs _ _ => hs) ⟨⟨F9.out, KeptC.refl _ _⟩, HEW.out, FD.out⟩
      (fun x B W => g13 < B ∧ W.heap[B]? = some (.cells #[.int .i64 s2, .int .i64 ((min c2 c1 + x.1 % aW c2 c1 : Nat) : Int), .int .i64 ((min r2 r1 + x.1 / aW c2 c1 : Nat) : Int)] 23 (0, 0)))
      (fun x B => OwnFrom.and (ownFrom_pure _ (fun _ => g13 < B)) (Own.from (heap_own B (fun _ : Unit => #[.int .i64 s2, .int .i64 ((min c2 c1 + x.1 % aW c2 c1 : Nat) : Int), .int .i64 ((min r2 r1 + x.1 / aW c2 c1 : Nat) : Int)]) 23) _)) ?assign ?body ?done ?stop
    case own =>
      refine OwnFrom.and (OwnFrom.and (Own.from (heap_own (g9 + 1) (fun pre : List (Fin (aN s2 s1 c2 c1 r2 r1)) => #[.int .i64 (pre.length : Int)]) 3) _) (Own.from (KeptC.own _ _) _)) (OwnFrom.and (ownFrom_below (Nat.le_refl _) HEW.out.size) ?_)
      intro _ A B row h hg hr
      rw [hg.block D1 (blk_lt h) (fun e => ?_), h]
      have h1 := (hr D1 e.symm).1
      have h2 := ORD2.out
      omega
    case assign =>
      rintro l pre x W' K ⟨⟨hn, hk⟩, hB, hD⟩ hK
      simp only [List.setIfInBounds_toArray, List.set_cons_zero, List.set_cons_succ] at hK ⊢
      have hv : aC s2 c2 c1 r2 r1 x = ceV s2 ((min c2 c1 + x.1 % aW c2 c1 : Nat) : Int) ((min r2 r1 + x.1 / aW c2 c1 : Nat) : Int) := rfl
      rw [hv] at hK ⊢
      clear hv
      generalize ((min c2 c1 + x.1 % aW c2 c1 : Nat) : Int) = cc at *
      generalize ((min r2 r1 + x.1 / aW c2 c1 : Nat) : Int) = rr at *
      have Hn := Lib.hid hn
      have Hk := Lib.hid hk
      have HBl := Lib.hid hB
      have HD := Lib.hid hD
      clear hn hk hB hD
      gi_wp2
      exact hK W'.heap.size _ ((KeepsOthers.alloc _ _).from _) ((KpN.refl _ _).alloc _) ⟨⟨(ext_alloc (Ext.refl _) _).blk Hn.out, Hk.out.alloc _⟩, ext_alloc HBl.out _, (Below.heap_alloc _ _ _ (blk_lt HD.out)).trans HD.out⟩
        ⟨by have := blk_lt (Hk.out _ _ FB.out rfl (by simp only [List.mem_singleton]; have := ORD.out; have := ORD2.out; omega)); omega, World.alloc_heap_new _ _⟩
    case stop =>
      rintro D c pre W' _ _ h _
      exact h.elim
    case body =>
      rintro l pre x B W' ⟨⟨hn, hk⟩, hB, hD⟩ ⟨hlt, hx⟩ hlen
      have hs : s1 = s2 := by
        refine Classical.byContradiction fun h => ?_
        have h1 := x.2
        have h2 := aN_none (s := s2) (s' := s1) c2 c1 r2 r1 (fun e => h e.symm)
        omega
      have q : (s2 != s1) = false := by rw [hs]; simp
      simp only [List.setIfInBounds_toArray, List.set_cons_zero, List.set_cons_succ]
      have c9 := cell_of_row W' (g9 + 1) 0 _ _ _ hn
      have z9 := frozen_of_row W' (g9 + 1) 0 _ _ hn
      have cx := cell_of_row W' B 0 _ _ _ hx
      have ca := cell_of_row W' g 0 _ _ _ (hk _ _ F1.out rfl (by simp only [List.mem_singleton]; have := ORD.out; omega))
      simp only [List.getElem?_toArray, List.getElem?_cons_zero, List.getElem?_cons_succ] at c9 cx ca
      have hN := aN_lt s2 s1 hb3 hb1 hb4 hb2
      obtain ⟨k, hkk⟩ : ∃ k, pre.length = k := ⟨_, rfl⟩
      rw [hkk] at hn hlen c9
      have Hn := Lib.hid hn
      have Hk := Lib.hid hk
      have HBl := Lib.hid hB
      have HD := Lib.hid hD
      have hk1 : (k : Int) < 1000000 := by omega
      clear hn hk hB hlen hN hx hD hs
      gi_wp2
      have hle := ORD.out
      have hle2 := ORD2.out
      refine ⟨(KeepsOthers.setCell _ _ _).from _, (KpN.refl _ W').set _ _ (show g9 + 1 < _ by omega), ⟨?_, Hk.out.set _ _ (List.mem_singleton.2 rfl)⟩, HBl.out.setCell (show w.heap.size ≤ g9 + 1 by have := HGG.out; omega) _, ?_⟩
      · rw [hq_put rfl, Hn.out, List.length_append, hkk]
        rfl
      · rw [Below.heap_setCell _ _ _ _ (fun e => ?_), HD.out]
        have e1 := HLD1.out
        replace e : D1 = g9 + 1 := e
        omega
    case done =>
      rintro D2 xs2 W' hlD2 hxs ⟨⟨hn, hk⟩, hB, hD⟩ hD2
      rw [hxs, List.length_finRange, aN_comm] at hn
      have G3 := Lib.hid (hk _ _ F3.out rfl (by simp only [List.mem_singleton]; have := ORD.out; omega))
      have G4 := Lib.hid (hk _ _ F4.out rfl (by simp only [List.mem_singleton]; have := ORD.out; omega))
      have G5 := Lib.hid (hk _ _ F5.out rfl (by simp only [List.mem_singleton]; have := ORD.out; omega))
      have G6 := Lib.hid (hk _ _ F6.out rfl (by simp only [List.mem_singleton]; have := ORD.out; omega))
      have G7 := Lib.hid (hk _ _ F7.out rfl (by simp only [List.mem_singleton]; have := ORD.out; omega))
      have G8 := Lib.hid (hk _ _ F8.out rfl (by simp only [List.mem_singleton]; have := ORD.out; omega))
      have c40 := cell_of_row W' g5 0 _ _ _ G4.out
      have c41 := cell_of_row W' g5 1 _ _ _ G4.out
      have c42 := cell_of_row W' g5 2 _ _ _ G4.out
      have c50 := cell_of_row W' (g5 + 1) 0 _ _ _ G5.out
      have c51 := cell_of_row W' (g5 + 1) 1 _ _ _ G5.out
      have c52 := cell_of_row W' (g5 + 1) 2 _ _ _ G5.out
      have c60 := cell_of_row W' g7 0 _ _ _ G6.out
      have c61 := cell_of_row W' g7 1 _ _ _ G6.out
      have c62 := cell_of_row W' g7 2 _ _ _ G6.out
      have c70 := cell_of_row W' (g7 + 1) 0 _ _ _ G7.out
      have c71 := cell_of_row W' (g7 + 1) 1 _ _ _ G7.out
      have c72 := cell_of_row W' (g7 + 1) 2 _ _ _ G7.out
      have c80 := cell_of_row W' g9 0 _ _ _ G8.out
      have c90 := cell_of_row W' (g9 + 1) 0 _ _ _ hn
      have z3 := frozen_of_row W' (g + 1 + 1) 0 _ _ G3.out
      have c3 := cell_of_row W' (g + 1 + 1) 0 _ _ _ G3.out
      simp only [List.getElem?_toArray, List.getElem?_cons_zero, List.getElem?_cons_succ] at c40 c41 c42 c50 c51 c52 c60 c61 c62 c70 c71 c72 c80 c90 c3
      have HBl := Lib.hid hB
      have HD := Lib.hid hD
      have HD2 := Lib.hid hD2
      have HL2 := Lib.hid hlD2
      have FIN : Hid (∀ tmps : Array Value, tmps.getD 4 undef = .pointer (some ⟨g + 1 + 1, 0, none⟩) → LeavesInM Fence.wide 5 Tryd.prog Tryd.f7 tmps (fun e w' => e = Ending.returned (Value.bool true) ∧ Ext w w') [{ target := .collected D2, args := #[] }, { target := .collected D1, args := #[] }] .returning (W'.setCell ⟨g + 1 + 1, 0, none⟩ (.bool true))) := Lib.hid (by
        intro tmps ht
        have o1 := ORD.out
        have o2 := ORD2.out
        have o3 := HLD1.out
        have o4 := HL2.out
        have o5 := HGG.out
        have d2 : (W'.setCell ⟨g + 1 + 1, 0, none⟩ (.bool true)).heap[D2]? = some (.deferred (some [])) := by
          rw [Below.heap_setCell _ _ _ _ (fun e => ?_), HD2.out]
          replace e : D2 = g + 1 + 1 := e
          omega
        have d1 : ((W'.setCell ⟨g + 1 + 1, 0, none⟩ (.bool true)).putObj D2 (.deferred none)).heap[D1]? = some (.deferred (some [])) := by
          rw [World.putObj_heap_other (by omega), Below.heap_setCell _ _ _ _ (fun e => ?_), HD.out]
          replace e : D1 = g + 1 + 1 := e
          omega
        refine ⟨by simp, .inl ⟨_, _, rfl, run_takeDeferred d2, by simp, .inl ⟨_, _, rfl, run_takeDeferred d1, ?_⟩⟩⟩
        refine leave_bool (g := g + 1 + 1) (t := 4) (b := true) rfl ht (RES.out tmps ht) ?_ ⟨rfl, ?_⟩
        · rw [World.putObj_heap_other (by omega), World.putObj_heap_other (by omega), hq_put rfl, G3.out]
          rfl
        · exact ext_put (ext_put (ext_set HBl.out (by show w.heap.size ≤ g + 1 + 1; omega)) (by omega)) (by omega))
      clear hn hk hB hD hD2 hlD2 hxs G3 G4 G5 G6 G7 G8
      rcases HO.out with ⟨rfl, ⟨rfl, rfl, rfl⟩, ⟨rfl, rfl, rfl⟩, rfl⟩ | ⟨rfl, hs⟩
      · have hp := aN_pos s1 c1 c2 r1 r2
        generalize aN s1 s1 c1 c2 r1 r2 = N at *
        have q1 : ∀ w, Sem.run Tryd.prog (binOp .eql 23 (ceV xs xc xr) (ceV xs xc xr)) w = .ok (.bool true) w := fun w => by rw [eql_cell]; simp
        have q2 : ∀ w, Sem.run Tryd.prog (binOp .eql 23 (ceV ys yc yr) (ceV ys yc yr)) w = .ok (.bool true) w := fun w => by rw [eql_cell]; simp
        have hp1 : (1 : Int) ≤ (N : Int) := by omega
        go_wp2_with fail
        exact FIN.out _ rfl
      · rw [aN_none _ _ _ _ hs] at c80 c90
        go_wp2_with fail
        exact FIN.out _ rfl
theorem walk (a b : Cl) (w : World) (wa : a.wf) (wb : b.wf) (hm : MaxI w) :
    Calls Tryd.prog 7 #[ceV a.s a.c a.r, ceV b.s b.c b.r] w fun e w' => e = .returned (.bool true) ∧ Below w.heap.size w w' := walk0 _ _ _ _ _ _ w hm
end Go.Proofs.YtkbcdnndhglnoaaDoor.addrTurned
