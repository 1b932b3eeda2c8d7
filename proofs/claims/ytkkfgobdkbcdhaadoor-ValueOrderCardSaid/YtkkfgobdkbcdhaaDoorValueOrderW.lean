/-
  ValueOrder: walk. Conditions: the arguments' own.
-/
import Derived.Test.YtkkfgobdkbcdhaaDoorCmp
import Derived.Test.YtkkfgobdkbcdhaaDoorArgU
import Derived.Deep.DeepCutAuto
namespace Go.Proofs.YtkkfgobdkbcdhaaDoor.valueOrder
open Go.RowKit Num
set_option linter.unusedVariables false
set_option linter.unusedSimpArgs false

theorem neq_value_self (k n : Int) (s : ByteArray) (w : World) : Sem.run Tryd.prog (binOp .neq 28 (.agg #[.int .i64 k, .int .i64 n, .string s]) (.agg #[.int .i64 k, .int .i64 n, .string s])) w = .ok (.bool false) w := by
  simp [go_sem]
def good (k n : Int) (s : ByteArray) : Prop := s.size ≤ 300 ∧ vr k n s = true ∧ (k == 4) = false
set_option maxHeartbeats 8000000 in
set_option maxRecDepth 100000 in
theorem walk0 (ak an bk bn ck cn : Int) (a1 b1 c1 : ByteArray) (w : World) (ht : Tab w) (ha : a1.size ≤ 9223372036854775807) (hb : b1.size ≤ 9223372036854775807) (hc : c1.size ≤ 9223372036854775807)
    (han : -9223372036854775808 ≤ an ∧ an ≤ 9223372036854775807) (hbn : -9223372036854775808 ≤ bn ∧ bn ≤ 9223372036854775807) (hcn : -9223372036854775808 ≤ cn ∧ cn ≤ 9223372036854775807) :
    Calls Tryd.prog 8 #[.agg #[.int .i64 ak, .int .i64 an, .string a1], .agg #[.int .i64 bk, .int .i64 bn, .string b1], .agg #[.int .i64 ck, .int .i64 cn, .string c1]] w fun e w' => e = .returned (.bool true) ∧ Ext w w' := by
  obtain ⟨W1, hW1, hE1, hG1, hL1, hS1⟩ := new_blk w #[.int .i64 ak, .int .i64 an, .string a1] 28
  obtain ⟨W2, hW2, hE2, hG2, hL2, hS2⟩ := new_blk W1 #[.int .i64 bk, .int .i64 bn, .string b1] 28
  obtain ⟨W3, hW3, hE3, hG3, hL3, hS3⟩ := new_blk W2 #[.int .i64 ck, .int .i64 cn, .string c1] 28
  rw [hS1] at hG2
  rw [hS2, hS1] at hG3
  have HW1 := Lib.hid hW1
  have HW2 := Lib.hid hW2
  have HW3 := Lib.hid hW3
  have HE3 := Lib.hid (hE1.trans (hE2.trans hE3))
  have HG1 := Lib.hid (hE3.blk (hE2.blk hG1))
  have HG2 := Lib.hid (hE3.blk hG2)
  have HG3 := Lib.hid hG3
  have HT3 := Lib.hid (ht.ext HE3.out)
  have HA := Lib.hid ha
  have HB := Lib.hid hb
  have HC := Lib.hid hc
  have HAN := Lib.hid han
  have HBN := Lib.hid hbn
  have HCN := Lib.hid hcn
  have d1 := ext_blk HG1.out
  have d2 := ext_blk HG2.out
  have d3 := ext_blk HG3.out
  have l1 := ext_lt (blk_lt HG1.out)
  have l2 := ext_lt (blk_lt HG2.out)
  have l3 := ext_lt (blk_lt HG3.out)
  have f1 : CallE Tryd.prog W3 9 #[] (.bool true) := fun w' hE => fit_v w' (HT3.out.ext hE)
  have hr3 := Ext.refl W3
  clear hW1 hW2 hW3 hE1 hE2 hE3 hG1 hG2 hG3 hL1 hL2 hL3 hS1 hS2 hS3 ht ha hb hc han hbn hcn
  go_enter Tryd.func8, Tryd.ntmps8
  go_wp2_with fail
  rw [HW1.out, HW2.out, HW3.out]
  clear HW1 HW2 HW3
  go_wp2_with (first | ((with_reducible refine (CallE.at_ (by assumption) (by assumption)).mono ?_); rintro e w' ⟨rfl, hEx⟩))
  obtain ⟨W4, hW4, hE4, hG4, hL4, hS4⟩ := new_blk w' #[.int .i64 ak, .int .i64 an, .string a1, .int .i64 bk, .int .i64 bn, .string b1, .int .i64 ck, .int .i64 cn, .string c1] 28
  rw [hW4]
  have E34 := hEx.trans hE4
  have HG1 := Lib.hid (E34.blk HG1.out)
  have HG2 := Lib.hid (E34.blk HG2.out)
  have HG3 := Lib.hid (E34.blk HG3.out)
  have HG4 := Lib.hid hG4
  have HE4 := Lib.hid (HE3.out.trans E34)
  generalize hg4 : w'.heap.size = g4 at *
  have b4 := ext_blk hG4
  have l4 := ext_lt (blk_lt hG4)
  have hr4 := Ext.refl W4
  clear hW4 hE4 hG4 hL4 hS4 hEx E34 d1 d2 d3 l1 l2 l3 f1 hr3 hg4 HE3 HT3
  go_loopw [19, 8] (fun si _ wr => ∃ i : Nat, i ≤ 3 ∧ si = .int .i64 (i : Int) ∧ (1 ≤ i → good ak an a1) ∧ (2 ≤ i → good bk bn b1) ∧ (3 ≤ i → good ck cn c1) ∧ Ext W4 wr) (fun si _ _ => 3 - (intOf si).toNat)
  case atStart => exact ⟨0, by omega, rfl, fun h => by omega, fun h => by omega, fun h => by omega, Ext.refl _⟩
  case round =>
    obtain ⟨i, hi, rfl, g1, g2, g3, hbw⟩ := hrel
    have G1 := Lib.hid g1
    have G2 := Lib.hid g2
    have G3 := Lib.hid g3
    clear g1 g2 g3
    have hcs : i = 0 ∨ i = 1 ∨ i = 2 ∨ i = 3 := by omega
    rcases hcs with rfl | rfl | rfl | rfl
    · have hl := fun w => light_any ak an a1 w HA.out
      have hv := fun w => vright_any ak an a1 w HAN.out
      obtain ⟨lt, hlt⟩ : ∃ b, decide ((a1.size : Int) ≤ 300) = b := ⟨_, rfl⟩
      obtain ⟨u, hu⟩ : ∃ b, vr ak an a1 = b := ⟨_, rfl⟩
      rw [hlt] at hl
      rw [hu] at hv
      have HL := Lib.hid hl
      have HV := Lib.hid hv
      have HLT := Lib.hid hlt
      have HU := Lib.hid hu
      clear hl hv hlt hu
      cases lt
      · go_wp2_with fail
        refine (HL.out _).mono ?_
        rintro e w5 ⟨rfl, hE5⟩
        go_wp2_with fail
        go_ret
        exact ⟨rfl, HE4.out.trans ((ext_alloc hbw _).trans hE5)⟩
      cases u
      · go_wp2_with fail
        refine (HL.out _).mono ?_
        rintro e w5 ⟨rfl, hE5⟩
        obtain ⟨gc5, gf5⟩ := ecell hE5; have gh5 := bheap hE5; have hz5 := Below.size hE5; simp only [World.size_alloc] at hz5; have hX5 := (ext_dig hE5); have hl5_0 : wr.heap.size < w5.heap.size := (by omega); have hm5_0 : wr.heap.size < w5.heap.size + 1 := (by omega); have hn5_0 : wr.heap.size < w5.heap.size + 1 + 1 := (by omega)
        go_wp2_with fail
        refine (HV.out _).mono ?_
        rintro e w6 ⟨rfl, hE6⟩
        go_wp2_with fail
        go_ret
        exact ⟨rfl, HE4.out.trans (hbw.trans (hX5.trans hE6))⟩
      have hk : (ak == 4) = true ∨ (ak == 4) = false := by cases (ak == 4) <;> simp
      rcases hk with hk4 | hk4
      · go_wp2_with fail
        refine (HL.out _).mono ?_
        rintro e w5 ⟨rfl, hE5⟩
        obtain ⟨gc5, gf5⟩ := ecell hE5; have gh5 := bheap hE5; have hz5 := Below.size hE5; simp only [World.size_alloc] at hz5; have hX5 := (ext_dig hE5); have hl5_0 : wr.heap.size < w5.heap.size := (by omega); have hm5_0 : wr.heap.size < w5.heap.size + 1 := (by omega); have hn5_0 : wr.heap.size < w5.heap.size + 1 + 1 := (by omega)
        go_wp2_with fail
        refine (HV.out _).mono ?_
        rintro e w6 ⟨rfl, hE6⟩
        have hE7 := hE5.trans hE6
        clear hE5 gc5 gf5 gh5 hz5 hX5 hl5_0 hm5_0 hn5_0
        obtain ⟨gc7, gf7⟩ := ecell hE7; have gh7 := bheap hE7; have hz7 := Below.size hE7; simp only [World.size_alloc] at hz7; have hX7 := (ext_dig hE7); have hl7_0 : wr.heap.size < w6.heap.size := (by omega); have hm7_0 : wr.heap.size < w6.heap.size + 1 := (by omega); have hn7_0 : wr.heap.size < w6.heap.size + 1 + 1 := (by omega)
        go_wp2_with fail
        go_ret
        exact ⟨rfl, HE4.out.trans (hbw.trans hX7)⟩
      · go_wp2_with fail
        refine (HL.out _).mono ?_
        rintro e w5 ⟨rfl, hE5⟩
        obtain ⟨gc5, gf5⟩ := ecell hE5; have gh5 := bheap hE5; have hz5 := Below.size hE5; simp only [World.size_alloc] at hz5; have hX5 := (ext_dig hE5); have hl5_0 : wr.heap.size < w5.heap.size := (by omega); have hm5_0 : wr.heap.size < w5.heap.size + 1 := (by omega); have hn5_0 : wr.heap.size < w5.heap.size + 1 + 1 := (by omega)
        go_wp2_with fail
        refine (HV.out _).mono ?_
        rintro e w6 ⟨rfl, hE6⟩
        have hE7 := hE5.trans hE6
        clear hE5 gc5 gf5 gh5 hz5 hX5 hl5_0 hm5_0 hn5_0
        obtain ⟨gc7, gf7⟩ := ecell hE7; have gh7 := bheap hE7; have hz7 := Below.size hE7; simp only [World.size_alloc] at hz7; have hX7 := (ext_dig hE7); have hl7_0 : wr.heap.size < w6.heap.size := (by omega); have hm7_0 : wr.heap.size < w6.heap.size + 1 := (by omega); have hn7_0 : wr.heap.size < w6.heap.size + 1 + 1 := (by omega)
        go_wp2_with fail
        go_roundw
        case rel =>
          have hlt := HLT.out
          have hu := HU.out
          exact ⟨1, by omega, by go_num, fun _ => ⟨by have := of_decide_eq_true hlt; omega, hu, hk4⟩, fun h => by omega, fun h => by omega, hbw.trans hX7⟩
        case measure => simp [intOf]
    · have hl := fun w => light_any bk bn b1 w HB.out
      have hv := fun w => vright_any bk bn b1 w HBN.out
      obtain ⟨lt, hlt⟩ : ∃ b, decide ((b1.size : Int) ≤ 300) = b := ⟨_, rfl⟩
      obtain ⟨u, hu⟩ : ∃ b, vr bk bn b1 = b := ⟨_, rfl⟩
      rw [hlt] at hl
      rw [hu] at hv
      have HL := Lib.hid hl
      have HV := Lib.hid hv
      have HLT := Lib.hid hlt
      have HU := Lib.hid hu
      clear hl hv hlt hu
      cases lt
      · go_wp2_with fail
        refine (HL.out _).mono ?_
        rintro e w5 ⟨rfl, hE5⟩
        go_wp2_with fail
        go_ret
        exact ⟨rfl, HE4.out.trans ((ext_alloc hbw _).trans hE5)⟩
      cases u
      · go_wp2_with fail
        refine (HL.out _).mono ?_
        rintro e w5 ⟨rfl, hE5⟩
        obtain ⟨gc5, gf5⟩ := ecell hE5; have gh5 := bheap hE5; have hz5 := Below.size hE5; simp only [World.size_alloc] at hz5; have hX5 := (ext_dig hE5); have hl5_0 : wr.heap.size < w5.heap.size := (by omega); have hm5_0 : wr.heap.size < w5.heap.size + 1 := (by omega); have hn5_0 : wr.heap.size < w5.heap.size + 1 + 1 := (by omega)
        go_wp2_with fail
        refine (HV.out _).mono ?_
        rintro e w6 ⟨rfl, hE6⟩
        go_wp2_with fail
        go_ret
        exact ⟨rfl, HE4.out.trans (hbw.trans (hX5.trans hE6))⟩
      have hk : (bk == 4) = true ∨ (bk == 4) = false := by cases (bk == 4) <;> simp
      rcases hk with hk4 | hk4
      · go_wp2_with fail
        refine (HL.out _).mono ?_
        rintro e w5 ⟨rfl, hE5⟩
        obtain ⟨gc5, gf5⟩ := ecell hE5; have gh5 := bheap hE5; have hz5 := Below.size hE5; simp only [World.size_alloc] at hz5; have hX5 := (ext_dig hE5); have hl5_0 : wr.heap.size < w5.heap.size := (by omega); have hm5_0 : wr.heap.size < w5.heap.size + 1 := (by omega); have hn5_0 : wr.heap.size < w5.heap.size + 1 + 1 := (by omega)
        go_wp2_with fail
        refine (HV.out _).mono ?_
        rintro e w6 ⟨rfl, hE6⟩
        have hE7 := hE5.trans hE6
        clear hE5 gc5 gf5 gh5 hz5 hX5 hl5_0 hm5_0 hn5_0
        obtain ⟨gc7, gf7⟩ := ecell hE7; have gh7 := bheap hE7; have hz7 := Below.size hE7; simp only [World.size_alloc] at hz7; have hX7 := (ext_dig hE7); have hl7_0 : wr.heap.size < w6.heap.size := (by omega); have hm7_0 : wr.heap.size < w6.heap.size + 1 := (by omega); have hn7_0 : wr.heap.size < w6.heap.size + 1 + 1 := (by omega)
        go_wp2_with fail
        go_ret
        exact ⟨rfl, HE4.out.trans (hbw.trans hX7)⟩
      · go_wp2_with fail
        refine (HL.out _).mono ?_
        rintro e w5 ⟨rfl, hE5⟩
        obtain ⟨gc5, gf5⟩ := ecell hE5; have gh5 := bheap hE5; have hz5 := Below.size hE5; simp only [World.size_alloc] at hz5; have hX5 := (ext_dig hE5); have hl5_0 : wr.heap.size < w5.heap.size := (by omega); have hm5_0 : wr.heap.size < w5.heap.size + 1 := (by omega); have hn5_0 : wr.heap.size < w5.heap.size + 1 + 1 := (by omega)
        go_wp2_with fail
        refine (HV.out _).mono ?_
        rintro e w6 ⟨rfl, hE6⟩
        have hE7 := hE5.trans hE6
        clear hE5 gc5 gf5 gh5 hz5 hX5 hl5_0 hm5_0 hn5_0
        obtain ⟨gc7, gf7⟩ := ecell hE7; have gh7 := bheap hE7; have hz7 := Below.size hE7; simp only [World.size_alloc] at hz7; have hX7 := (ext_dig hE7); have hl7_0 : wr.heap.size < w6.heap.size := (by omega); have hm7_0 : wr.heap.size < w6.heap.size + 1 := (by omega); have hn7_0 : wr.heap.size < w6.heap.size + 1 + 1 := (by omega)
        go_wp2_with fail
        go_roundw
        case rel =>
          have hlt := HLT.out
          have hu := HU.out
          exact ⟨2, by omega, by go_num, fun _ => G1.out (by omega), fun _ => ⟨by have := of_decide_eq_true hlt; omega, hu, hk4⟩, fun h => by omega, hbw.trans hX7⟩
        case measure => simp [intOf]
    · have hl := fun w => light_any ck cn c1 w HC.out
      have hv := fun w => vright_any ck cn c1 w HCN.out
      obtain ⟨lt, hlt⟩ : ∃ b, decide ((c1.size : Int) ≤ 300) = b := ⟨_, rfl⟩
      obtain ⟨u, hu⟩ : ∃ b, vr ck cn c1 = b := ⟨_, rfl⟩
      rw [hlt] at hl
      rw [hu] at hv
      have HL := Lib.hid hl
      have HV := Lib.hid hv
      have HLT := Lib.hid hlt
      have HU := Lib.hid hu
      clear hl hv hlt hu
      cases lt
      · go_wp2_with fail
        refine (HL.out _).mono ?_
        rintro e w5 ⟨rfl, hE5⟩
        go_wp2_with fail
        go_ret
        exact ⟨rfl, HE4.out.trans ((ext_alloc hbw _).trans hE5)⟩
      cases u
      · go_wp2_with fail
        refine (HL.out _).mono ?_
        rintro e w5 ⟨rfl, hE5⟩
        obtain ⟨gc5, gf5⟩ := ecell hE5; have gh5 := bheap hE5; have hz5 := Below.size hE5; simp only [World.size_alloc] at hz5; have hX5 := (ext_dig hE5); have hl5_0 : wr.heap.size < w5.heap.size := (by omega); have hm5_0 : wr.heap.size < w5.heap.size + 1 := (by omega); have hn5_0 : wr.heap.size < w5.heap.size + 1 + 1 := (by omega)
        go_wp2_with fail
        refine (HV.out _).mono ?_
        rintro e w6 ⟨rfl, hE6⟩
        go_wp2_with fail
        go_ret
        exact ⟨rfl, HE4.out.trans (hbw.trans (hX5.trans hE6))⟩
      have hk : (ck == 4) = true ∨ (ck == 4) = false := by cases (ck == 4) <;> simp
      rcases hk with hk4 | hk4
      · go_wp2_with fail
        refine (HL.out _).mono ?_
        rintro e w5 ⟨rfl, hE5⟩
        obtain ⟨gc5, gf5⟩ := ecell hE5; have gh5 := bheap hE5; have hz5 := Below.size hE5; simp only [World.size_alloc] at hz5; have hX5 := (ext_dig hE5); have hl5_0 : wr.heap.size < w5.heap.size := (by omega); have hm5_0 : wr.heap.size < w5.heap.size + 1 := (by omega); have hn5_0 : wr.heap.size < w5.heap.size + 1 + 1 := (by omega)
        go_wp2_with fail
        refine (HV.out _).mono ?_
        rintro e w6 ⟨rfl, hE6⟩
        have hE7 := hE5.trans hE6
        clear hE5 gc5 gf5 gh5 hz5 hX5 hl5_0 hm5_0 hn5_0
        obtain ⟨gc7, gf7⟩ := ecell hE7; have gh7 := bheap hE7; have hz7 := Below.size hE7; simp only [World.size_alloc] at hz7; have hX7 := (ext_dig hE7); have hl7_0 : wr.heap.size < w6.heap.size := (by omega); have hm7_0 : wr.heap.size < w6.heap.size + 1 := (by omega); have hn7_0 : wr.heap.size < w6.heap.size + 1 + 1 := (by omega)
        go_wp2_with fail
        go_ret
        exact ⟨rfl, HE4.out.trans (hbw.trans hX7)⟩
      · go_wp2_with fail
        refine (HL.out _).mono ?_
        rintro e w5 ⟨rfl, hE5⟩
        obtain ⟨gc5, gf5⟩ := ecell hE5; have gh5 := bheap hE5; have hz5 := Below.size hE5; simp only [World.size_alloc] at hz5; have hX5 := (ext_dig hE5); have hl5_0 : wr.heap.size < w5.heap.size := (by omega); have hm5_0 : wr.heap.size < w5.heap.size + 1 := (by omega); have hn5_0 : wr.heap.size < w5.heap.size + 1 + 1 := (by omega)
        go_wp2_with fail
        refine (HV.out _).mono ?_
        rintro e w6 ⟨rfl, hE6⟩
        have hE7 := hE5.trans hE6
        clear hE5 gc5 gf5 gh5 hz5 hX5 hl5_0 hm5_0 hn5_0
        obtain ⟨gc7, gf7⟩ := ecell hE7; have gh7 := bheap hE7; have hz7 := Below.size hE7; simp only [World.size_alloc] at hz7; have hX7 := (ext_dig hE7); have hl7_0 : wr.heap.size < w6.heap.size := (by omega); have hm7_0 : wr.heap.size < w6.heap.size + 1 := (by omega); have hn7_0 : wr.heap.size < w6.heap.size + 1 + 1 := (by omega)
        go_wp2_with fail
        go_roundw
        case rel =>
          have hlt := HLT.out
          have hu := HU.out
          exact ⟨3, by omega, by go_num, fun _ => G1.out (by omega), fun _ => G2.out (by omega), fun _ => ⟨by have := of_decide_eq_true hlt; omega, hu, hk4⟩, hbw.trans hX7⟩
        case measure => simp [intOf]
    · have q1 := G1.out (by omega)
      have q2 := G2.out (by omega)
      have q3 := G3.out (by omega)
      obtain ⟨A, hA, hak, han, has⟩ := rv_of q1.2.1 HAN.out
      obtain ⟨B, hB, hbk, hbn, hbs⟩ := rv_of q2.2.1 HBN.out
      obtain ⟨C, hC, hck, hcn, hcs⟩ := rv_of q3.2.1 HCN.out
      obtain ⟨p1, p2, p3, p4, p5⟩ := order_fact A B C hA hB
      have c1 := fun w => compare_v A B w
      have c2 := fun w => compare_v B A w
      have c3 := fun w => compare_v A A w
      have c4 := fun w => compare_v B C w
      have c5 := fun w => compare_v A C w
      rw [p1] at c3
      unfold RV.val at c1 c2 c3 c4 c5
      rw [hak, han, has] at *
      rw [hbk, hbn, hbs] at *
      rw [hck, hcn, hcs] at *
      have hk4 : ak ≠ 4 := by have := q1.2.2; simpa using this
      have HX2 := Lib.hid p2
      generalize cmpV B A = y at *
      generalize cmpV A B = x at *
      generalize cmpV B C = z at *
      generalize cmpV A C = u at *
      have C1 := Lib.hid c1
      have C2 := Lib.hid c2
      have C3 := Lib.hid c3
      have C4 := Lib.hid c4
      have C5 := Lib.hid c5
      have P4 := Lib.hid p4
      have P5 := Lib.hid p5
      clear c1 c2 c3 c4 c5 p1 p2 p4 p5 q1 q2 q3 hA hB hC hak han has hbk hbn hbs hck hcn hcs G1 G2 G3 HA HB HC
      have d1 := ext_blk (hbw.blk HG1.out)
      have d2 := ext_blk (hbw.blk HG2.out)
      have d3 := ext_blk (hbw.blk HG3.out)
      have l1 := ext_lt (blk_lt (hbw.blk HG1.out))
      have l2 := ext_lt (blk_lt (hbw.blk HG2.out))
      have l3 := ext_lt (blk_lt (hbw.blk HG3.out))
      have e1 : CallE Tryd.prog wr 25 _ _ := fun w' _ => C1.out w'
      have e2 : CallE Tryd.prog wr 25 _ _ := fun w' _ => C2.out w'
      have HF := Lib.hid (HE4.out.trans hbw)
      have hrw := Ext.refl wr
      clear b4 l4 hr4 hbw HG4
      go_wp2_with fail
      refine region_any (by kernel_rfl) (by kernel_rfl) rfl (fun K hK => ?_)
      repeat (first | (refine seqr_skip (by rfl) (fun ρ => by rfl) ?_; (try simp only [Act.put, List.setIfInBounds_toArray, List.set_cons_zero, List.set_cons_succ])) | (refine seqr_pure (v := ?_) (by rfl) (fun ρ => by rfl) (fun ρ w hE hF => ?_) ?_; rotate_left 1; (· ((try simp only [fill, Act.put, List.setIfInBounds_toArray, List.set_cons_zero, List.set_cons_succ]); go_simp; try with_reducible rfl)); (try simp only [Act.put, List.setIfInBounds_toArray, List.set_cons_zero, List.set_cons_succ])) | (refine seqr_call0 (v := ?_) (f := ?_) (args := ?_) (by rfl) (fun ρ => by rfl) (fun ρ w => ?_) (fun w hE => ?_) ?_; rotate_left 3; (· ((try simp only [fill, Act.put, List.setIfInBounds_toArray, List.set_cons_zero, List.set_cons_succ]); go_simp; constructor <;> with_reducible rfl)); (· (with_reducible exact CallE.call (by assumption) hE)); (try simp only [Act.put, List.setIfInBounds_toArray, List.set_cons_zero, List.set_cons_succ])))
      refine seqr_done (fun ρ wN hEN hFN => ?_); (try simp only [fill, Act.put, List.setIfInBounds_toArray, List.set_cons_zero, List.set_cons_succ]); refine (show K _ _ from hK.out _ _ ?_); clear hK K
      have e3 : CallE Tryd.prog wr 25 _ _ := fun w' _ => C3.out w'
      have e4 : CallE Tryd.prog wr 25 _ _ := fun w' _ => C4.out w'
      have e5 : CallE Tryd.prog wr 25 _ _ := fun w' _ => C5.out w'
      clear e1 e2 hrw hFN
      go_upto_region 10 with (fail)
      go_cut [60] (fun v wx => v = .bool false ∧ Ext wr wx)
      case first =>
        rcases Int.lt_trichotomy x 0 with hs | hs | hs
        · have y0 : 0 < y := by have := HX2.out; omega
          have t1 : (x == 0) = false := by simp; omega
          have t2 : (y == 0) = false := by simp; omega
          clear HX2 p3
          go_wp2_with (first | ((with_reducible refine (CallE.at_ (by assumption) (by assumption)).mono ?_); rintro e w' ⟨rfl, hEx⟩))
          go_meet
          case rel => exact ⟨rfl, hEx⟩
        · subst hs
          have y0 : y = 0 := by have := HX2.out; omega
          subst y0
          clear HX2 p3
          go_wp2_with (first | ((with_reducible refine (CallE.at_ (by assumption) (by assumption)).mono ?_); rintro e w' ⟨rfl, hEx⟩))
          go_meet
          case rel => exact ⟨rfl, hEx⟩
        · have y0 : y < 0 := by have := HX2.out; omega
          have t1 : (x == 0) = false := by simp; omega
          have t2 : (y == 0) = false := by simp; omega
          clear HX2 p3
          go_wp2_with (first | ((with_reducible refine (CallE.at_ (by assumption) (by assumption)).mono ?_); rintro e w' ⟨rfl, hEx⟩))
          go_meet
          case rel => exact ⟨rfl, hEx⟩
      case rest =>
      obtain ⟨rfl, hE6⟩ := hcut
      clear hEN
      obtain ⟨F, hF⟩ : ∃ F, (ak != 0 && (bk != 0 && ck != 0)) = F := ⟨_, rfl⟩
      have HFB := Lib.hid hF
      clear hF e3
      go_upto_region 12 with (fail)
      go_cut [11] (fun v wx => v = .bool F ∧ wc = wx)
      case first =>
        clear e4 e5 P4 P5
        have hF := HFB.out
        by_cases h1 : ak = 0
        · have t1 : (ak != 0) = false := by simpa using h1
          rw [t1] at hF
          have hF : F = false := by rw [← hF]; rfl
          subst hF
          clear h1
          go_wp2_with fail
          go_meet
          case rel => exact ⟨rfl, rfl⟩
        have t1 : (ak != 0) = true := by simpa using h1
        rw [t1] at hF
        by_cases h2 : bk = 0
        · have t2 : (bk != 0) = false := by simpa using h2
          rw [t2] at hF
          have hF : F = false := by rw [← hF]; rfl
          subst hF
          clear h1 h2
          go_wp2_with fail
          go_meet
          case rel => exact ⟨rfl, rfl⟩
        have t2 : (bk != 0) = true := by simpa using h2
        rw [t2] at hF
        by_cases h3 : ck = 0
        · have t3 : (ck != 0) = false := by simpa using h3
          rw [t3] at hF
          have hF : F = false := by rw [← hF]; rfl
          subst hF
          clear h1 h2 h3
          go_wp2_with fail
          go_meet
          case rel => exact ⟨rfl, rfl⟩
        · have t3 : (ck != 0) = true := by simpa using h3
          rw [t3] at hF
          have hF : F = true := by rw [← hF]; rfl
          subst hF
          clear h1 h2 h3
          go_wp2_with fail
          go_meet
          case rel => exact ⟨rfl, rfl⟩
      case rest =>
      obtain ⟨rfl, rfl⟩ := hcut
      have PF : Hid (F = true → (x ≤ 0 → z ≤ 0 → u ≤ 0) ∧ (ak < bk → x < 0) ∧ (x = 0 → ak = bk ∧ an = bn ∧ a1 = b1)) := Lib.hid fun h => by
        have := HFB.out
        rw [h] at this
        simp only [Bool.and_eq_true, bne_iff_ne, ne_eq] at this
        obtain ⟨i1, i2, i3⟩ := P4.out this.1 this.2.1 this.2.2
        exact ⟨i1, i2, fun e => i3 e hk4⟩
      clear HFB P4
      go_upto_region 13 with (fail)
      go_cut [90] (fun v wx => v = .bool false ∧ Ext wr wx)
      case first =>
        cases F
        · clear e4 e5
          go_wp2_with fail
          go_meet
          case rel => exact ⟨rfl, hE6⟩
        obtain ⟨i1, -, -⟩ := PF.out rfl
        by_cases h1 : x ≤ 0
        · by_cases h2 : z ≤ 0
          · have h3 := i1 h1 h2
            clear i1 PF
            go_wp2_with (first | ((with_reducible refine (CallE.at_ (by assumption) (by assumption)).mono ?_); rintro e w' ⟨rfl, hEx⟩))
            go_meet
            case rel => exact ⟨congrArg Value.bool (decide_eq_false (by omega)), hEx⟩
          · clear i1 PF
            go_wp2_with (first | ((with_reducible refine (CallE.at_ (by assumption) (by assumption)).mono ?_); rintro e w' ⟨rfl, hEx⟩))
            go_meet
            case rel => exact ⟨rfl, hEx⟩
        · clear i1 PF
          go_wp2_with (first | ((with_reducible refine (CallE.at_ (by assumption) (by assumption)).mono ?_); rintro e w' ⟨rfl, hEx⟩))
          go_meet
          case rel => exact ⟨rfl, hE6⟩
      case rest =>
      obtain ⟨rfl, hE7⟩ := hcut
      clear hE6 e4 e5
      go_upto_region 15 with (fail)
      go_cut [114] (fun v wx => v = .bool false ∧ wc = wx)
      case first =>
        cases F
        · go_wp2_with fail
          go_meet
          case rel => exact ⟨rfl, rfl⟩
        obtain ⟨-, i2, i3⟩ := PF.out rfl
        rcases Int.lt_trichotomy x 0 with hs | hs | hs
        · have t1 : (x == 0) = false := by simp; omega
          clear i2 i3 PF
          by_cases h1 : ak < bk
          · go_wp2_with fail
            go_meet
            case rel => exact ⟨congrArg Value.bool (decide_eq_false (by omega)), rfl⟩
          · go_wp2_with fail
            go_meet
            case rel => exact ⟨rfl, rfl⟩
        · obtain ⟨j1, j2, j3⟩ := i3 hs
          have q1 := fun w => neq_value_self ak an a1 w
          clear PF i2 i3 P5 HBN
          subst hs
          subst j1
          subst j2
          subst j3
          have h1 : ¬ ak < ak := by omega
          go_wp2_with fail
          go_meet
          case rel => exact ⟨rfl, rfl⟩
        · have t1 : (x == 0) = false := by simp; omega
          have h1 : ¬ ak < bk := fun h => by have := i2 h; omega
          clear i2 i3 PF
          go_wp2_with fail
          go_meet
          case rel => exact ⟨rfl, rfl⟩
      case rest =>
      obtain ⟨rfl, rfl⟩ := hcut
      clear PF
      by_cases h1 : ak = 1
      · have t1 : (ak != 1) = false := by simpa using h1
        by_cases h2 : bk = 1
        · have t2 : (bk != 1) = false := by simpa using h2
          have hiff := P5.out h1 h2
          clear P5 h1 h2
          by_cases h3 : x < 0
          · have h4 := hiff.1 h3
            clear hiff
            go_wp2_with fail
            go_ret
            exact ⟨rfl, HF.out.trans hE7⟩
          · have h4 : ¬ an < bn := fun h => h3 (hiff.2 h)
            clear hiff
            go_wp2_with fail
            go_ret
            exact ⟨rfl, HF.out.trans hE7⟩
        · have t2 : (bk != 1) = true := by simpa using h2
          clear P5 h1 h2
          go_wp2_with fail
          go_ret
          exact ⟨rfl, HF.out.trans hE7⟩
      · have t1 : (ak != 1) = true := by simpa using h1
        clear P5 h1
        go_wp2_with fail
        go_ret
        exact ⟨rfl, HF.out.trans hE7⟩
theorem walk (a b c : Vl) (w : World) (wa : VW a) (wb : VW b) (wc : VW c) (ht : Tab w) :
    Calls Tryd.prog 8 #[.agg #[.int .i64 a.k, .int .i64 a.n, .string a.s], .agg #[.int .i64 b.k, .int .i64 b.n, .string b.s], .agg #[.int .i64 c.k, .int .i64 c.n, .string c.s]] w fun e w' => e = .returned (.bool true) ∧ Below w.heap.size w w' :=
  walk0 a.k a.n b.k b.n c.k c.n a.s b.s c.s w ht wa.2.2 wb.2.2 wc.2.2 wa.2.1 wb.2.1 wc.2.1
end Go.Proofs.YtkkfgobdkbcdhaaDoor.valueOrder
