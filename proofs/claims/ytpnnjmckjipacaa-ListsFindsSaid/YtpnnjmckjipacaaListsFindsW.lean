/-
  ListsFinds: walk. Conditions: the arguments' own.
-/
import Derived.Test.YtpnnjmckjipacaaLPlain
import Derived.Deep.RegionHeld3
namespace Go.Proofs.Ytpnnjmckjipacaa.listsFinds
open Go.RowKit Num
set_option linter.unusedVariables false

set_option maxHeartbeats 1600000 in
theorem walk (x : Vl) (a : Option Addr) (len cap : Nat) (L : List Vl) (w : World) (hx : VW x) (hL : VArg w a len cap L) (hr : len * 32 ≤ 140737488351232) :
    Calls Try.prog 5 #[.agg #[.int .i64 x.k, .int .i64 x.n, .string x.s], .slice a len cap] w fun e w' => e = .returned (.bool true) ∧ Below w.heap.size w w' := by
  have fd := vfield1
  go_enter Try.func5, Try.ntmps5
  obtain ⟨W0, hW0, hb0, hX0, hs0⟩ := start_x w x.k x.n x.s
  have HW0 := Lib.hid hW0
  clear hW0
  go_wp2_with fail
  rw [HW0.out]
  refine (fit_any _).mono ?_
  rintro e w1 ⟨rfl, hb1'⟩
  have hb1 := hb0.th hb1'
  obtain ⟨x0, x1, x2, x3⟩ := hX0.step hb1'
  have hX1 := hX0.step hb1'
  have HX1 := Lib.hid hX1
  clear hX0 hb1' hb0 hs0 hX1
  have HNL := Lib.hid hL.2.2.2
  have hv1 := hL.1.below hb1
  have hlen := hL.1.1
  have hcap := hL.2.2.1
  go_wp2_with (at_builtin; refine app_vals (W := w1) rfl (.tmp 10) (.tmp 11) rfl _ [x] rfl (lit_row w1 x) (below_alloc w1 _) a len cap L rfl (hv1.alloc _) HNL.out (by simp; omega) ?_; intro v4 w4 hown4 hb4)
  obtain ⟨a4, cap4, rfl, hin4, hcp4⟩ := own_vals hown4
  have hlen4 : ([x] ++ L).length = 1 + len := by simp; omega
  rw [hlen4] at hin4 hcp4 ⊢
  have hva : VArg w4 a4 (1 + len) cap4 ([x] ++ L) := ⟨hin4, fun v hv => by (rcases List.mem_append.1 hv with h | h; rw [List.mem_singleton.1 h]; exact hx; exact hL.2.1 v h), hcp4, fun h => by (obtain ⟨b, off, hb, _⟩ := hin4.2 (by omega); rw [h] at hb; cases hb)⟩
  have hb5 := hb1.th hb4
  have hX5 := HX1.out.step hb4
  have hv5 := hv1.below hb4
  clear hb1 hb4 hv1 hown4 hlen4 hin4 HX1 x0 x1 x2 x3
  refine (light_any a4 (1 + len) cap4 _ _ hva).mono ?_
  rintro e w2 ⟨u, rfl, hb2', hl2⟩
  have hb2 := hb5.th hb2'
  have hv2 := hv5.below hb2'
  obtain ⟨x0, x1, x2, x3⟩ := hX5.step hb2'
  have hX2 := hX5.step hb2'
  have HX2 := Lib.hid hX2
  clear hX2 hb5 hv5 hb2' hX5 hva
  cases u
  · clear hl2
    go_wp2
    go_ret
    exact ⟨rfl, hb2⟩
  have h100 : len ≤ 100 := by have := (hl2 (by trivial)).1; omega
  clear hl2 hr
  rcases first_at (fun j => veq (L.getD j v0) x) len with hno | ⟨i, hi, hvi, hfi⟩
  · have hm := fun w h => match_no x a len cap L w h (by omega) hno
    have hc := fun w h => countif_any x a len cap L w h (by omega)
    rw [cnt_zero _ _ (by rw [hlen]; exact hno)] at hc
    have HM := Lib.hid hm
    have HC := Lib.hid hc
    clear hm hc hno
    go_wp2_with fail
    refine (HM.out _ hv2).mono ?_
    rintro e w3 ⟨rfl, hb3'⟩
    have hb3 := hb2.th hb3'
    have hv3 := hv2.below hb3'
    have hX3 := HX2.out.step hb3'
    obtain ⟨Wm, hWm, bm, xm, sm⟩ := start_x w3 4 6 { data := #[] }
    have HWm := Lib.hid hWm
    have hbm := hb3.th bm
    have hvm := hv3.below bm
    have hXm := hX3.step bm
    have hbW := held2_start xm hXm
    have lm : w3.heap.size < Wm.heap.size := xm.1
    have lx : w.heap.size < Wm.heap.size := hXm.1
    clear hb2 hv2 hb3' HX2 hWm hb3 hv3 hX3 bm sm
    go_wp2_with fail
    rw [HWm.out]
    go_region_held3 (fun w' => Below Wm.heap.size Wm w' ∧ w'.cell? ⟨w3.heap.size, 0, none⟩ = some (.int .i64 4) ∧ w'.cell? ⟨w3.heap.size, 1, none⟩ = some (.int .i64 6) ∧ w'.cell? ⟨w3.heap.size, 2, none⟩ = some (.string { data := #[] }) ∧ w'.cell? ⟨w.heap.size, 0, none⟩ = some (.int .i64 x.k) ∧ w'.cell? ⟨w.heap.size, 1, none⟩ = some (.int .i64 x.n) ∧ w'.cell? ⟨w.heap.size, 2, none⟩ = some (.string x.s))
      (first | exact hbW | exact held2 lm lx (by assumption) (by assumption))
      (first
        | (go_at_call 18; refine (vfail_any 6 _).mono ?_; rintro e w5 ⟨rfl, hb5⟩)
        | (go_at_call 15; refine (HC.out _ (hvm.below (And.left (by assumption)))).mono ?_; rintro e w5 ⟨rfl, hb5⟩)
        | (go_at_call 16; refine (vnum_any 0 _).mono ?_; rintro e w5 ⟨rfl, hb5⟩))
    go_split_ands
    go_wp2
    go_ret
    exact ⟨rfl, hbm.th (by assumption)⟩
  · have hm := fun w h => match_yes x a len cap L w h (by omega) i hi hvi hfi
    have hxe : L.getD i v0 = x := (veq_iff _ _).1 hvi
    have hix := fun w h => index_any i a len cap L w h (by omega) hcap hi
    have hvl := fun w h => vlookup_any x a len cap L w h (by omega) hcap ⟨i, hi, hvi⟩
    have hmn := fun w h => match_no x a i cap (L.take i) w h (by omega) (fun j hj => by rw [first_get L hj]; exact hfi j hj)
    rw [hxe] at hix
    obtain ⟨b, off, rfl, hB, hc⟩ := hv2.2 (by omega)
    have hci := hc i (by omega)
    rw [hxe] at hci
    have hdv : (((i : Int) + 1) * 1000000).tdiv 1000000 = (i : Int) + 1 := Int.mul_tdiv_cancel _ (by decide)
    have hNb : 0 ≤ ((i : Int) + 1) * 1000000 ∧ ((i : Int) + 1) * 1000000 ≤ 1000000000 := by omega
    obtain ⟨N, hN⟩ : ∃ N, ((i : Int) + 1) * 1000000 = N := ⟨_, rfl⟩
    rw [hN] at hm hdv hNb
    have HM := Lib.hid hm
    have HIX := Lib.hid hix
    have HVL := Lib.hid hvl
    have HMN := Lib.hid hmn
    have HCI := Lib.hid hci
    clear hm hix hvl hmn hvi hfi hxe hc hN hci
    go_wp2_with fail
    refine (HM.out _ hv2).mono ?_
    rintro e w3 ⟨rfl, hb3'⟩
    have hb3 := hb2.th hb3'
    have hv3 := hv2.below hb3'
    have hX3 := HX2.out.step hb3'
    obtain ⟨Wm, hWm, bm, xm, sm⟩ := start_x w3 1 N { data := #[] }
    have HWm := Lib.hid hWm
    have hbm := hb3.th bm
    have hvm := hv3.below bm
    have hXm := hX3.step bm
    have hb2m := hb3'.th bm
    obtain ⟨cc, -⟩ := bcell hb2m
    have e0 := (cc b (off + i * 3) hB).trans HCI.out.1
    have e1 := (cc b (off + i * 3 + 1) hB).trans HCI.out.2.1
    have e2 := (cc b (off + i * 3 + 2) hB).trans HCI.out.2.2
    have hbW := held2v_start e0 e1 e2 hXm
    have lB : b < Wm.heap.size := Nat.lt_of_lt_of_le hB hb2m.size
    have lx : w.heap.size < Wm.heap.size := hXm.1
    have r1 : 1 ≤ (i : Int) + 1 := by omega
    have r2 : (i : Int) + 1 ≤ len := by omega
    have r3 : (i : Int) + 1 - 1 = i := by omega
    have r4 : (i : Int) < len := by omega
    have r5 : (i : Int) ≤ cap := by omega
    have r6 : i ≤ cap := by omega
    clear hb2 hv2 hb3' HX2 hWm hb3 hv3 hX3 bm sm cc HCI hb2m
    have rw2 : IntKind.i64.wrap (i : Int) = i := by rw [IntKind.wrap_i64]; omega
    have rw1 : IntKind.i64.wrap ((i : Int) + 1 - 1) = i := by rw [r3]; exact rw2
    have r7 : (0 : Int) ≤ i := by omega
    go_wp2_with fail
    rw [HWm.out]
    go_region_held3 (fun w' => Below Wm.heap.size Wm w' ∧ w'.cell? ⟨b, off + i * 3, none⟩ = some (.int .i64 x.k) ∧ w'.cell? ⟨b, off + i * 3 + 1, none⟩ = some (.int .i64 x.n) ∧ w'.cell? ⟨b, off + i * 3 + 2, none⟩ = some (.string x.s) ∧ w'.cell? ⟨w.heap.size, 0, none⟩ = some (.int .i64 x.k) ∧ w'.cell? ⟨w.heap.size, 1, none⟩ = some (.int .i64 x.n) ∧ w'.cell? ⟨w.heap.size, 2, none⟩ = some (.string x.s))
      (first | exact hbW | exact held2v lB lx (by assumption) (by assumption))
      (first
        | (go_at_call 18; refine (vfail_any 6 _).mono ?_; rintro e w5 ⟨rfl, hb5⟩)
        | (go_at_call 19; refine (HIX.out _ (hvm.below (And.left (by assumption)))).mono ?_; rintro e w5 ⟨rfl, hb5⟩)
        | (go_at_call 20; refine (HVL.out _ (hvm.below (And.left (by assumption)))).mono ?_; rintro e w5 ⟨rfl, hb5⟩)
        | (go_at_call 14; refine (HMN.out _ ((hvm.below (And.left (by assumption))).first (by omega))).mono ?_; rintro e w5 ⟨rfl, hb5⟩))
    go_split_ands
    go_wp2
    go_ret
    exact ⟨rfl, hbm.th (by assumption)⟩
end Go.Proofs.Ytpnnjmckjipacaa.listsFinds
