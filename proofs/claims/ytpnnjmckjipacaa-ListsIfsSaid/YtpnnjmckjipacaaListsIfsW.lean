/-
  ListsIfs: walk. Conditions: the arguments' own.
-/
import Derived.Test.YtpnnjmckjipacaaLPlain
import Derived.Deep.RegionHeld3
namespace Go.Proofs.Ytpnnjmckjipacaa.listsIfs
open Go.RowKit Num
set_option linter.unusedVariables false

/-- Where the first alike one stands among the first i, from 1 on; 0: nowhere. -/
def AtIs (p : Nat → Bool) (i : Nat) (at_ : Int) : Prop := (at_ = 0 ∧ ∀ j, j < i → p j = false) ∨ ∃ k, k < i ∧ p k = true ∧ (∀ j, j < k → p j = false) ∧ at_ = (k : Int) + 1

set_option maxHeartbeats 1600000 in
theorem walk (x : Vl) (a : Option Addr) (len cap : Nat) (L : List Vl) (w : World) (hx : VW x) (hL : VArg w a len cap L) (hr : len * 32 ≤ 140737488351232) :
    Calls Try.prog 4 #[.agg #[.int .i64 x.k, .int .i64 x.n, .string x.s], .slice a len cap] w fun e w' => e = .returned (.bool true) ∧ Below w.heap.size w w' := by
  have fd := vfield1
  go_enter Try.func4, Try.ntmps4
  obtain ⟨W0, hW0, hb0, hX0, hs0⟩ := start_x w x.k x.n x.s
  have HW0 := Lib.hid hW0
  clear hW0
  go_wp2_with fail
  rw [HW0.out]
  refine (fit_any _).mono ?_
  rintro e w1 ⟨rfl, hb1'⟩
  have hb1 := hb0.th hb1'
  obtain ⟨x0, x1, x2, x3⟩ := hX0.step hb1'
  have hX1 := hX0.step hb1'
  have HX1 := Lib.hid hX1
  clear hX0 hb1' hb0 hs0 hX1
  have HNL := Lib.hid hL.2.2.2
  have hv1 := hL.1.below hb1
  have hlen := hL.1.1
  have hcap := hL.2.2.1
  go_wp2_with (at_builtin; refine app_vals (W := w1) rfl (.tmp 14) (.tmp 15) rfl _ [x] rfl (lit_row w1 x) (below_alloc w1 _) a len cap L rfl (hv1.alloc _) HNL.out (by simp; omega) ?_; intro v4 w4 hown4 hb4)
  obtain ⟨a4, cap4, rfl, hin4, hcp4⟩ := own_vals hown4
  have hlen4 : ([x] ++ L).length = 1 + len := by simp; omega
  rw [hlen4] at hin4 hcp4 ⊢
  have hva : VArg w4 a4 (1 + len) cap4 ([x] ++ L) := ⟨hin4, fun v hv => by (rcases List.mem_append.1 hv with h | h; rw [List.mem_singleton.1 h]; exact hx; exact hL.2.1 v h), hcp4, fun h => by (obtain ⟨b, off, hb, _⟩ := hin4.2 (by omega); rw [h] at hb; cases hb)⟩
  have hb5 := hb1.th hb4
  have hX5 := HX1.out.step hb4
  have hv5 := hv1.below hb4
  have HVA := Lib.hid hva
  clear hb1 hb4 hv1 hown4 hlen4 hin4 HX1 x0 x1 x2 x3
  refine (light_any a4 (1 + len) cap4 _ _ hva).mono ?_
  rintro e w2 ⟨u, rfl, hb2', hl2⟩
  have hb2 := hb5.th hb2'
  have hv2 := hv5.below hb2'
  have hX2 := hX5.step hb2'
  have HX2 := Lib.hid hX2
  clear hX2 hb5 hv5 hb2' hX5 hva
  cases u
  · clear hl2
    go_wp2
    go_ret
    exact ⟨rfl, hb2⟩
  have hl2 := hl2 (by trivial)
  have h100 : len ≤ 100 := by have := hl2.1; omega
  have hml := light_mants HVA.out hl2
  have hmL : Mants (nums L) := fun z hz => hml z (by rw [nums_app]; exact List.mem_append_right _ hz)
  have HML := Lib.hid hmL
  obtain ⟨p, hp⟩ : ∃ p, (fun v => veq v x) = p := ⟨_, rfl⟩
  have HP := Lib.hid hp
  clear hl2 hr hml hmL hp HVA
  go_wp2_with fail
  go_loopw [5, 6, 7, 21] (fun sn sa so si wr => ∃ (i : Nat) (at_ : Int), i ≤ len ∧ si = .int .i64 (i : Int) ∧ sn = .int .i64 ((cnt p (L.take i) : Nat) : Int) ∧ sa = .int .i64 at_ ∧ AtIs (fun j => p (L.getD j v0)) i at_ ∧ wr.ownsRow w2.heap.size 26 3 so ((L.take i).filter p).length (vcells ((L.take i).filter p)) ∧ Below w2.heap.size w2 wr) (fun _ _ _ si _ => len - (intOf si).toNat)
  case atStart => exact ⟨0, 0, by omega, rfl, rfl, rfl, .inl ⟨rfl, fun j hj => by omega⟩, World.ownsRow_nil _ _ _ _, Below.refl _ _⟩
  case round =>
    obtain ⟨i, at_, hi, rfl, rfl, rfl, hat, hown, hbW2⟩ := hrel
    have HAT := Lib.hid hat
    have hbw := hb2.th hbW2
    have hcl := cnt_le p (L.take i)
    have hcl2 : cnt p (L.take i) ≤ 100 := by rw [List.length_take] at hcl; omega
    have hcl3 : ((L.take i).filter p).length ≤ 100 := hcl2
    clear hcl hat
    by_cases hlt : i < len
    · obtain ⟨b, off, rfl, hB, hc⟩ := (hv2.below hbW2).2 (by omega)
      obtain ⟨h1, h2, h3⟩ := hc i (by omega)
      obtain ⟨x0, x1, x2, x3⟩ := HX2.out.step hbW2
      have hsn := take_vl (L := L) (k := i) (by omega)
      obtain ⟨v, hv⟩ : ∃ v, L.getD i v0 = v := ⟨_, rfl⟩
      rw [hv] at h1 h2 h3 hsn
      have hst : (L.take (i + 1)).filter p = (L.take i).filter p ++ if p v then [v] else [] := by rw [hsn, List.filter_append]; by_cases h : p v <;> simp [h]
      have hsc : cnt p (L.take (i + 1)) = cnt p (L.take i) + if p v then 1 else 0 := by rw [hsn, cnt_snoc]
      have hpv : p v = veq v x := by rw [← HP.out]
      have HPI : Hid (p (L.getD i v0) = p v) := by show _ = _; rw [hv]
      have HST := Lib.hid hst
      have HSC := Lib.hid hsc
      clear hc hsn hst hsc hv
      by_cases hu : p v = true
      · have hvx : v = x := (veq_iff v x).1 (by rw [← hpv]; exact hu)
        have HU := Lib.hid hu
        subst hvx
        clear hu hpv
        rcases HAT.out with ⟨rfl, hno⟩ | ⟨k, hk, hpk, hfk, rfl⟩
        · have HNO := Lib.hid hno
          clear hno
          go_wp2_with (at_builtin; refine app_val rfl (.tmp 31) (.tmp 33) rfl _ ((L.take i).filter p) rfl (hown.alloc _) (hbW2.al _) v rfl (by simp) (by omega) ?_; intro v' w3 hown' hb')
          go_roundw
          case rel => exact ⟨i + 1, (i : Int) + 1, by omega, by go_num, by rw [HSC.out, HU.out]; go_num, by go_num, .inr ⟨i, by omega, HPI.out.trans HU.out, HNO.out, rfl⟩, by rw [HST.out, HU.out]; exact hown', hb'⟩
          case measure => simp [intOf]; omega
        · have HPK := Lib.hid hpk
          have HFK := Lib.hid hfk
          have tk : ((k : Int) + 1 == 0) = false := by simp; omega
          clear hpk hfk
          go_wp2_with (at_builtin; refine app_val rfl (.tmp 31) (.tmp 33) rfl _ ((L.take i).filter p) rfl (hown.alloc _) (hbW2.al _) v rfl (by simp) (by omega) ?_; intro v' w3 hown' hb')
          go_roundw
          case rel => exact ⟨i + 1, (k : Int) + 1, by omega, by go_num, by rw [HSC.out, HU.out]; go_num, rfl, .inr ⟨k, by omega, HPK.out, HFK.out, rfl⟩, by rw [HST.out, HU.out]; exact hown', hb'⟩
          case measure => simp [intOf]; omega
      · have hu' : p v = false := by simpa using hu
        have HU := Lib.hid hu'
        have hno : AtIs (fun j => p (L.getD j v0)) (i + 1) at_ := by
          rcases HAT.out with ⟨rfl, hno⟩ | ⟨k, hk, hpk, hfk, rfl⟩
          · exact .inl ⟨rfl, fun j hj => by rcases Nat.lt_or_ge j i with hj' | hj'; exact hno j hj'; obtain rfl : j = i := (by omega); exact HPI.out.trans hu'⟩
          · exact .inr ⟨k, by omega, hpk, hfk, rfl⟩
        have HNO := Lib.hid hno
        have hvn := veq_no (v := v) (x := x) (by rw [← hpv]; exact hu')
        clear hu hu' hpv hno
        rcases hvn with t1 | ⟨t1, t2⟩ | ⟨t1, t2, t3⟩
        all_goals
          go_wp2_with fail
          go_roundw
          case rel => exact ⟨i + 1, at_, by omega, by go_num, by rw [HSC.out, HU.out]; rfl, rfl, HNO.out, by rw [HST.out, HU.out]; simpa using hown.alloc _, hbW2.al _⟩
          case measure => simp [intOf]; omega
    · have hall : L.take i = L := List.take_of_length_le (by omega)
      have hil : i = len := by omega
      rw [hall] at hown hcl2 hcl3
      rw [hall]
      have hat := HAT.out
      rw [hil] at hat
      have hmf := nums_filter_sub L p HML.out
      obtain ⟨a', cap', rfl, hin', -⟩ := own_vals hown
      have hcn : cnt p L = (L.filter p).length := rfl
      rw [hcn] at hcl2 ⊢
      have hc := fun w h => countif_any x (a := a) (len := len) (cap := cap) (L := L) w h (by omega)
      have hsi := fun w h => sumif_any x (a := a) (len := len) (cap := cap) (L := L) w h (by omega) HML.out
      have hsu := fun w h => sum_any a' (L.filter p).length cap' (L.filter p) w h (by omega) hmf
      rw [HP.out] at hc hsi
      rw [hcn] at hc
      have hpe : ∀ v, p v = veq v x := fun v => by rw [← HP.out]
      obtain ⟨c, hcc⟩ : ∃ c, (L.filter p).length = c := ⟨_, rfl⟩
      rw [hcc] at hc hsu hcl2 hcl3 hin' ⊢
      obtain ⟨sk, hsk⟩ : ∃ z, oK (sumO (nums (L.filter p))) = z := ⟨_, rfl⟩
      obtain ⟨sn, hsn⟩ : ∃ z, oN (sumO (nums (L.filter p))) = z := ⟨_, rfl⟩
      rw [hsk, hsn] at hsi hsu
      have hwr : IntKind.i64.wrap ((c : Int) * 1000000) = (c : Int) * 1000000 := by rw [IntKind.wrap_i64]; omega
      obtain ⟨NC, hNC⟩ : ∃ z, (c : Int) * 1000000 = z := ⟨_, rfl⟩
      rw [hNC] at hc hwr
      have hwr0 : IntKind.i64.wrap NC = NC := by rw [← hNC, IntKind.wrap_i64]; omega
      have hwr2 : (c : Int) * 1000000 = NC := hNC
      have HC := Lib.hid hc
      have HSI := Lib.hid hsi
      have HSU := Lib.hid hsu
      clear hcn hc hsi hsu hsk hsn hcc hown hmf hall HAT
      rcases hat with ⟨rfl, hno⟩ | ⟨k, hk, hpk, hfk, rfl⟩
      · have hm := fun w h => match_no x a len cap L w h (by omega) (fun j hj => by rw [← hpe]; exact hno j hj)
        have HM := Lib.hid hm
        clear hm hno hpe
        have hX3 := (HX2.out.step hbW2)
        obtain ⟨x0, x1, x2, x3⟩ := HX2.out.step hbW2
        have HX3 := Lib.hid hX3
        have hv3 := hv2.below hbW2
        clear hX3 HX2 hv2 hb2 hbW2
        go_wp2_with fail
        refine (HM.out _ hv3).mono ?_
        rintro e w3 ⟨rfl, hb3'⟩
        have hb3 := hbw.th hb3'
        have hv4 := hv3.below hb3'
        have hs4 := hin'.below hb3'
        have hX4 := HX3.out.step hb3'
        obtain ⟨Wm, hWm, bm, xm, sm⟩ := start_x w3 4 6 { data := #[] }
        have HWm := Lib.hid hWm
        have hbm := hb3.th bm
        have hvm := hv4.below bm
        have hsm := hs4.below bm
        have hXm := hX4.step bm
        have hbW := held2_start xm hXm
        have lm : w3.heap.size < Wm.heap.size := xm.1
        have lx : w.heap.size < Wm.heap.size := hXm.1
        clear hv3 hb3' HX3 hWm hb3 hv4 hs4 hX4 bm sm x0 x1 x2 x3 hbw hin'
        go_wp2_with fail
        rw [HWm.out]
        refine wp_region_held_drew (S := (fun w' => Below Wm.heap.size Wm w' ∧ w'.cell? ⟨w3.heap.size, 0, none⟩ = some (.int .i64 4) ∧ w'.cell? ⟨w3.heap.size, 1, none⟩ = some (.int .i64 6) ∧ w'.cell? ⟨w3.heap.size, 2, none⟩ = some (.string { data := #[] }) ∧ w'.cell? ⟨w.heap.size, 0, none⟩ = some (.int .i64 x.k) ∧ w'.cell? ⟨w.heap.size, 1, none⟩ = some (.int .i64 x.n) ∧ w'.cell? ⟨w.heap.size, 2, none⟩ = some (.string x.s))) (by kernel_rfl) ?_ (fun hHeld => ?_)
        · (try dsimp only); first | assumption | exact hbW | exact held2 lm lx (by assumption) (by assumption)
        -- operation 0
        first
          | (refine wpAnyH_take (i := 0) (oi := ({ dst := some 43, op := Op.load 26 (Operand.tmp 2), type := 26, pos := "law.go:86", after := #[], guard := none } : Oper)) (v := undef) rfl (by kernel_rfl) (by kernel_rfl) (by kernel_rfl) (fun _ _ _ h => h) (Or.inr ⟨by rfl, rfl⟩) (by assumption) ?_)
          | (refine wpAnyH_take (i := 0) (oi := ({ dst := some 43, op := Op.load 26 (Operand.tmp 2), type := 26, pos := "law.go:86", after := #[], guard := none } : Oper)) (v := ?_) rfl (by kernel_rfl) (by kernel_rfl) (by kernel_rfl) (fun _ _ _ h => h) (Or.inl ⟨by rfl, ?_⟩) (by assumption) ?_; rotate_left 1; (· (intro w hSw; (try dsimp only at hSw); go_simp; try with_reducible rfl)))
        try simp only [Act.put, List.setIfInBounds_toArray, List.set_cons_zero, List.set_cons_succ]
        -- operation 1
        first
          | (refine wpAnyH_take (i := 1) (oi := ({ dst := some 44, op := Op.move (Operand.tmp 1), type := 22, pos := "law.go:86", after := #[], guard := none } : Oper)) (v := undef) rfl (by kernel_rfl) (by kernel_rfl) (by kernel_rfl) (fun _ _ _ h => h) (Or.inr ⟨by rfl, rfl⟩) (by assumption) ?_)
          | (refine wpAnyH_take (i := 1) (oi := ({ dst := some 44, op := Op.move (Operand.tmp 1), type := 22, pos := "law.go:86", after := #[], guard := none } : Oper)) (v := ?_) rfl (by kernel_rfl) (by kernel_rfl) (by kernel_rfl) (fun _ _ _ h => h) (Or.inl ⟨by rfl, ?_⟩) (by assumption) ?_; rotate_left 1; (· (intro w hSw; (try dsimp only at hSw); go_simp; try with_reducible rfl)))
        try simp only [Act.put, List.setIfInBounds_toArray, List.set_cons_zero, List.set_cons_succ]
        -- operation 3
        first
          | (refine wpAnyH_take (i := 3) (oi := ({ dst := some 46, op := Op.move (Operand.tmp 5), type := 2, pos := "law.go:86", after := #[], guard := none } : Oper)) (v := undef) rfl (by kernel_rfl) (by kernel_rfl) (by kernel_rfl) (fun _ _ _ h => h) (Or.inr ⟨by rfl, rfl⟩) (by assumption) ?_)
          | (refine wpAnyH_take (i := 3) (oi := ({ dst := some 46, op := Op.move (Operand.tmp 5), type := 2, pos := "law.go:86", after := #[], guard := none } : Oper)) (v := ?_) rfl (by kernel_rfl) (by kernel_rfl) (by kernel_rfl) (fun _ _ _ h => h) (Or.inl ⟨by rfl, ?_⟩) (by assumption) ?_; rotate_left 1; (· (intro w hSw; (try dsimp only at hSw); go_simp; try with_reducible rfl)))
        try simp only [Act.put, List.setIfInBounds_toArray, List.set_cons_zero, List.set_cons_succ]
        -- operation 4
        first
          | (refine wpAnyH_take (i := 4) (oi := ({ dst := some 47, op := Op.binOp BinOp.mul 2 (Operand.tmp 46) (Operand.const (Value.int IntKind.i64 1000000)) 2, type := 2, pos := "law.go:86", after := #[{ on := 3, ground := Ground.data }], guard := none } : Oper)) (v := undef) rfl (by kernel_rfl) (by kernel_rfl) (by kernel_rfl) (fun _ _ _ h => h) (Or.inr ⟨by rfl, rfl⟩) (by assumption) ?_)
          | (refine wpAnyH_take (i := 4) (oi := ({ dst := some 47, op := Op.binOp BinOp.mul 2 (Operand.tmp 46) (Operand.const (Value.int IntKind.i64 1000000)) 2, type := 2, pos := "law.go:86", after := #[{ on := 3, ground := Ground.data }], guard := none } : Oper)) (v := ?_) rfl (by kernel_rfl) (by kernel_rfl) (by kernel_rfl) (fun _ _ _ h => h) (Or.inl ⟨by rfl, ?_⟩) (by assumption) ?_; rotate_left 1; (· (intro w hSw; (try dsimp only at hSw); go_simp; try with_reducible rfl)))
        try simp only [Act.put, List.setIfInBounds_toArray, List.set_cons_zero, List.set_cons_succ]
        -- operation 2
        first
          | (refine wpAnyH_take (i := 2) (oi := ({ dst := some 45, op := Op.call { callee := Callee.value (Operand.func 15), args := #[Operand.tmp 43, Operand.tmp 44], argTypes := #[26, 22] }, type := 26, pos := "law.go:86", after := #[{ on := 0, ground := Ground.data }, { on := 1, ground := Ground.data }], guard := none } : Oper)) (v := undef) rfl (by kernel_rfl) (by kernel_rfl) (by kernel_rfl) (fun _ _ _ h => h) (Or.inr ⟨by rfl, rfl⟩) (by assumption) ?_)
          | (refine wpAnyH_ready (rs := [2]) (by kernel_rfl) (by simp) ?_; refine AllReadyH.cons (o := ({ dst := some 45, op := Op.call { callee := Callee.value (Operand.func 15), args := #[Operand.tmp 43, Operand.tmp 44], argTypes := #[26, 22] }, type := 26, pos := "law.go:86", after := #[{ on := 0, ground := Ground.data }, { on := 1, ground := Ground.data }], guard := none } : Oper)) rfl (fun K hK => ?_) AllReadyH.nil; go_simp; (first | (refine (vfail_any 6 _).mono ?_; rintro e w5 ⟨rfl, hb5⟩) | (refine (HC.out _ (hvm.below (And.left (by assumption)))).mono ?_; rintro e w5 ⟨rfl, hb5⟩) | (refine (HSI.out _ (hvm.below (And.left (by assumption)))).mono ?_; rintro e w5 ⟨rfl, hb5⟩) | (refine (HSU.out _ (hsm.below (And.left (by assumption)))).mono ?_; rintro e w5 ⟨rfl, hb5⟩) | (refine (vnum_any _ _).mono ?_; rintro e w5 ⟨rfl, hb5⟩)); (try go_wp2_with fail); refine hK.out _ _ ?_ (fun hHeld => ?_); (· ((try dsimp only); first | assumption | exact hbW | exact held2 lm lx (by assumption) (by assumption))); clear hK K)
        try simp only [Act.put, List.setIfInBounds_toArray, List.set_cons_zero, List.set_cons_succ]
        -- operation 5
        first
          | (refine wpAnyH_take (i := 5) (oi := ({ dst := some 48, op := Op.call { callee := Callee.value (Operand.func 16), args := #[Operand.tmp 47], argTypes := #[2] }, type := 26, pos := "law.go:86", after := #[{ on := 4, ground := Ground.data }, { on := 2, ground := Ground.chain }], guard := none } : Oper)) (v := undef) rfl (by kernel_rfl) (by kernel_rfl) (by kernel_rfl) (fun _ _ _ h => h) (Or.inr ⟨by rfl, rfl⟩) (by assumption) ?_)
          | (refine wpAnyH_ready (rs := [5]) (by kernel_rfl) (by simp) ?_; refine AllReadyH.cons (o := ({ dst := some 48, op := Op.call { callee := Callee.value (Operand.func 16), args := #[Operand.tmp 47], argTypes := #[2] }, type := 26, pos := "law.go:86", after := #[{ on := 4, ground := Ground.data }, { on := 2, ground := Ground.chain }], guard := none } : Oper)) rfl (fun K hK => ?_) AllReadyH.nil; go_simp; (first | (refine (vfail_any 6 _).mono ?_; rintro e w5 ⟨rfl, hb5⟩) | (refine (HC.out _ (hvm.below (And.left (by assumption)))).mono ?_; rintro e w5 ⟨rfl, hb5⟩) | (refine (HSI.out _ (hvm.below (And.left (by assumption)))).mono ?_; rintro e w5 ⟨rfl, hb5⟩) | (refine (HSU.out _ (hsm.below (And.left (by assumption)))).mono ?_; rintro e w5 ⟨rfl, hb5⟩) | (refine (vnum_any _ _).mono ?_; rintro e w5 ⟨rfl, hb5⟩)); (try go_wp2_with fail); refine hK.out _ _ ?_ (fun hHeld => ?_); (· ((try dsimp only); first | assumption | exact hbW | exact held2 lm lx (by assumption) (by assumption))); clear hK K)
        try simp only [Act.put, List.setIfInBounds_toArray, List.set_cons_zero, List.set_cons_succ]
        -- operation 6
        first
          | (refine wpAnyH_take (i := 6) (oi := ({ dst := some 49, op := Op.binOp BinOp.eql 26 (Operand.tmp 45) (Operand.tmp 48) 26, type := 4, pos := "law.go:86", after := #[{ on := 2, ground := Ground.data }, { on := 5, ground := Ground.data }], guard := none } : Oper)) (v := undef) rfl (by kernel_rfl) (by kernel_rfl) (by kernel_rfl) (fun _ _ _ h => h) (Or.inr ⟨by rfl, rfl⟩) (by assumption) ?_)
          | (refine wpAnyH_take (i := 6) (oi := ({ dst := some 49, op := Op.binOp BinOp.eql 26 (Operand.tmp 45) (Operand.tmp 48) 26, type := 4, pos := "law.go:86", after := #[{ on := 2, ground := Ground.data }, { on := 5, ground := Ground.data }], guard := none } : Oper)) (v := ?_) rfl (by kernel_rfl) (by kernel_rfl) (by kernel_rfl) (fun _ _ _ h => h) (Or.inl ⟨by rfl, ?_⟩) (by assumption) ?_; rotate_left 1; (· (intro w hSw; (try dsimp only at hSw); go_simp; try with_reducible rfl)))
        try simp only [Act.put, List.setIfInBounds_toArray, List.set_cons_zero, List.set_cons_succ]
        -- operation 7
        first
          | (refine wpAnyH_take (i := 7) (oi := ({ dst := some 50, op := Op.move (Operand.tmp 49), type := 4, pos := "law.go:86", after := #[{ on := 6, ground := Ground.data }, { on := 5, ground := Ground.chain }], guard := none } : Oper)) (v := undef) rfl (by kernel_rfl) (by kernel_rfl) (by kernel_rfl) (fun _ _ _ h => h) (Or.inr ⟨by rfl, rfl⟩) (by assumption) ?_)
          | (refine wpAnyH_take (i := 7) (oi := ({ dst := some 50, op := Op.move (Operand.tmp 49), type := 4, pos := "law.go:86", after := #[{ on := 6, ground := Ground.data }, { on := 5, ground := Ground.chain }], guard := none } : Oper)) (v := ?_) rfl (by kernel_rfl) (by kernel_rfl) (by kernel_rfl) (fun _ _ _ h => h) (Or.inl ⟨by rfl, ?_⟩) (by assumption) ?_; rotate_left 1; (· (intro w hSw; (try dsimp only at hSw); go_simp; try with_reducible rfl)))
        try simp only [Act.put, List.setIfInBounds_toArray, List.set_cons_zero, List.set_cons_succ]
        -- operation 8
        first
          | (refine wpAnyH_take (i := 8) (oi := ({ dst := some 51, op := Op.load 26 (Operand.tmp 2), type := 26, pos := "law.go:86", after := #[{ on := 7, ground := Ground.guard }], guard := some (7, true) } : Oper)) (v := undef) rfl (by kernel_rfl) (by kernel_rfl) (by kernel_rfl) (fun _ _ _ h => h) (Or.inr ⟨by rfl, rfl⟩) (by assumption) ?_)
          | (refine wpAnyH_take (i := 8) (oi := ({ dst := some 51, op := Op.load 26 (Operand.tmp 2), type := 26, pos := "law.go:86", after := #[{ on := 7, ground := Ground.guard }], guard := some (7, true) } : Oper)) (v := ?_) rfl (by kernel_rfl) (by kernel_rfl) (by kernel_rfl) (fun _ _ _ h => h) (Or.inl ⟨by rfl, ?_⟩) (by assumption) ?_; rotate_left 1; (· (intro w hSw; (try dsimp only at hSw); go_simp; try with_reducible rfl)))
        try simp only [Act.put, List.setIfInBounds_toArray, List.set_cons_zero, List.set_cons_succ]
        -- operation 9
        first
          | (refine wpAnyH_take (i := 9) (oi := ({ dst := some 52, op := Op.move (Operand.tmp 1), type := 22, pos := "law.go:86", after := #[{ on := 7, ground := Ground.guard }], guard := some (7, true) } : Oper)) (v := undef) rfl (by kernel_rfl) (by kernel_rfl) (by kernel_rfl) (fun _ _ _ h => h) (Or.inr ⟨by rfl, rfl⟩) (by assumption) ?_)
          | (refine wpAnyH_take (i := 9) (oi := ({ dst := some 52, op := Op.move (Operand.tmp 1), type := 22, pos := "law.go:86", after := #[{ on := 7, ground := Ground.guard }], guard := some (7, true) } : Oper)) (v := ?_) rfl (by kernel_rfl) (by kernel_rfl) (by kernel_rfl) (fun _ _ _ h => h) (Or.inl ⟨by rfl, ?_⟩) (by assumption) ?_; rotate_left 1; (· (intro w hSw; (try dsimp only at hSw); go_simp; try with_reducible rfl)))
        try simp only [Act.put, List.setIfInBounds_toArray, List.set_cons_zero, List.set_cons_succ]
        -- operation 11
        first
          | (refine wpAnyH_take (i := 11) (oi := ({ dst := some 54, op := Op.move (Operand.tmp 7), type := 22, pos := "law.go:86", after := #[{ on := 7, ground := Ground.guard }], guard := some (7, true) } : Oper)) (v := undef) rfl (by kernel_rfl) (by kernel_rfl) (by kernel_rfl) (fun _ _ _ h => h) (Or.inr ⟨by rfl, rfl⟩) (by assumption) ?_)
          | (refine wpAnyH_take (i := 11) (oi := ({ dst := some 54, op := Op.move (Operand.tmp 7), type := 22, pos := "law.go:86", after := #[{ on := 7, ground := Ground.guard }], guard := some (7, true) } : Oper)) (v := ?_) rfl (by kernel_rfl) (by kernel_rfl) (by kernel_rfl) (fun _ _ _ h => h) (Or.inl ⟨by rfl, ?_⟩) (by assumption) ?_; rotate_left 1; (· (intro w hSw; (try dsimp only at hSw); go_simp; try with_reducible rfl)))
        try simp only [Act.put, List.setIfInBounds_toArray, List.set_cons_zero, List.set_cons_succ]
        -- operation 10
        first
          | (refine wpAnyH_take (i := 10) (oi := ({ dst := some 53, op := Op.call { callee := Callee.value (Operand.func 17), args := #[Operand.tmp 51, Operand.tmp 52], argTypes := #[26, 22] }, type := 26, pos := "law.go:86", after := #[{ on := 8, ground := Ground.data }, { on := 9, ground := Ground.data }, { on := 7, ground := Ground.chain }, { on := 7, ground := Ground.guard }], guard := some (7, true) } : Oper)) (v := undef) rfl (by kernel_rfl) (by kernel_rfl) (by kernel_rfl) (fun _ _ _ h => h) (Or.inr ⟨by rfl, rfl⟩) (by assumption) ?_)
          | (refine wpAnyH_ready (rs := [10]) (by kernel_rfl) (by simp) ?_; refine AllReadyH.cons (o := ({ dst := some 53, op := Op.call { callee := Callee.value (Operand.func 17), args := #[Operand.tmp 51, Operand.tmp 52], argTypes := #[26, 22] }, type := 26, pos := "law.go:86", after := #[{ on := 8, ground := Ground.data }, { on := 9, ground := Ground.data }, { on := 7, ground := Ground.chain }, { on := 7, ground := Ground.guard }], guard := some (7, true) } : Oper)) rfl (fun K hK => ?_) AllReadyH.nil; go_simp; (first | (refine (vfail_any 6 _).mono ?_; rintro e w5 ⟨rfl, hb5⟩) | (refine (HC.out _ (hvm.below (And.left (by assumption)))).mono ?_; rintro e w5 ⟨rfl, hb5⟩) | (refine (HSI.out _ (hvm.below (And.left (by assumption)))).mono ?_; rintro e w5 ⟨rfl, hb5⟩) | (refine (HSU.out _ (hsm.below (And.left (by assumption)))).mono ?_; rintro e w5 ⟨rfl, hb5⟩) | (refine (vnum_any _ _).mono ?_; rintro e w5 ⟨rfl, hb5⟩)); (try go_wp2_with fail); refine hK.out _ _ ?_ (fun hHeld => ?_); (· ((try dsimp only); first | assumption | exact hbW | exact held2 lm lx (by assumption) (by assumption))); clear hK K)
        try simp only [Act.put, List.setIfInBounds_toArray, List.set_cons_zero, List.set_cons_succ]
        -- operation 12
        first
          | (refine wpAnyH_take (i := 12) (oi := ({ dst := some 55, op := Op.call { callee := Callee.value (Operand.func 12), args := #[Operand.tmp 54], argTypes := #[22] }, type := 26, pos := "law.go:86", after := #[{ on := 11, ground := Ground.data }, { on := 10, ground := Ground.chain }, { on := 7, ground := Ground.guard }], guard := some (7, true) } : Oper)) (v := undef) rfl (by kernel_rfl) (by kernel_rfl) (by kernel_rfl) (fun _ _ _ h => h) (Or.inr ⟨by rfl, rfl⟩) (by assumption) ?_)
          | (refine wpAnyH_ready (rs := [12]) (by kernel_rfl) (by simp) ?_; refine AllReadyH.cons (o := ({ dst := some 55, op := Op.call { callee := Callee.value (Operand.func 12), args := #[Operand.tmp 54], argTypes := #[22] }, type := 26, pos := "law.go:86", after := #[{ on := 11, ground := Ground.data }, { on := 10, ground := Ground.chain }, { on := 7, ground := Ground.guard }], guard := some (7, true) } : Oper)) rfl (fun K hK => ?_) AllReadyH.nil; go_simp; (first | (refine (vfail_any 6 _).mono ?_; rintro e w5 ⟨rfl, hb5⟩) | (refine (HC.out _ (hvm.below (And.left (by assumption)))).mono ?_; rintro e w5 ⟨rfl, hb5⟩) | (refine (HSI.out _ (hvm.below (And.left (by assumption)))).mono ?_; rintro e w5 ⟨rfl, hb5⟩) | (refine (HSU.out _ (hsm.below (And.left (by assumption)))).mono ?_; rintro e w5 ⟨rfl, hb5⟩) | (refine (vnum_any _ _).mono ?_; rintro e w5 ⟨rfl, hb5⟩)); (try go_wp2_with fail); refine hK.out _ _ ?_ (fun hHeld => ?_); (· ((try dsimp only); first | assumption | exact hbW | exact held2 lm lx (by assumption) (by assumption))); clear hK K)
        try simp only [Act.put, List.setIfInBounds_toArray, List.set_cons_zero, List.set_cons_succ]
        -- operation 13
        first
          | (refine wpAnyH_take (i := 13) (oi := ({ dst := some 56, op := Op.binOp BinOp.eql 26 (Operand.tmp 53) (Operand.tmp 55) 26, type := 4, pos := "law.go:86", after := #[{ on := 10, ground := Ground.data }, { on := 12, ground := Ground.data }, { on := 7, ground := Ground.guard }], guard := some (7, true) } : Oper)) (v := undef) rfl (by kernel_rfl) (by kernel_rfl) (by kernel_rfl) (fun _ _ _ h => h) (Or.inr ⟨by rfl, rfl⟩) (by assumption) ?_)
          | (refine wpAnyH_take (i := 13) (oi := ({ dst := some 56, op := Op.binOp BinOp.eql 26 (Operand.tmp 53) (Operand.tmp 55) 26, type := 4, pos := "law.go:86", after := #[{ on := 10, ground := Ground.data }, { on := 12, ground := Ground.data }, { on := 7, ground := Ground.guard }], guard := some (7, true) } : Oper)) (v := ?_) rfl (by kernel_rfl) (by kernel_rfl) (by kernel_rfl) (fun _ _ _ h => h) (Or.inl ⟨by rfl, ?_⟩) (by assumption) ?_; rotate_left 1; (· (intro w hSw; (try dsimp only at hSw); go_simp; try with_reducible rfl)))
        try simp only [Act.put, List.setIfInBounds_toArray, List.set_cons_zero, List.set_cons_succ]
        -- operation 14
        first
          | (refine wpAnyH_take (i := 14) (oi := ({ dst := some 57, op := Op.pick (Operand.tmp 50) (Operand.tmp 56) (Operand.const (Value.bool false)), type := 4, pos := "law.go:86", after := #[{ on := 7, ground := Ground.data }, { on := 13, ground := Ground.data }], guard := none } : Oper)) (v := undef) rfl (by kernel_rfl) (by kernel_rfl) (by kernel_rfl) (fun _ _ _ h => h) (Or.inr ⟨by rfl, rfl⟩) (by assumption) ?_)
          | (refine wpAnyH_take (i := 14) (oi := ({ dst := some 57, op := Op.pick (Operand.tmp 50) (Operand.tmp 56) (Operand.const (Value.bool false)), type := 4, pos := "law.go:86", after := #[{ on := 7, ground := Ground.data }, { on := 13, ground := Ground.data }], guard := none } : Oper)) (v := ?_) rfl (by kernel_rfl) (by kernel_rfl) (by kernel_rfl) (fun _ _ _ h => h) (Or.inl ⟨by rfl, ?_⟩) (by assumption) ?_; rotate_left 1; (· (intro w hSw; (try dsimp only at hSw); go_simp; try with_reducible rfl)))
        try simp only [Act.put, List.setIfInBounds_toArray, List.set_cons_zero, List.set_cons_succ]
        -- operation 15
        first
          | (refine wpAnyH_take (i := 15) (oi := ({ dst := some 58, op := Op.move (Operand.tmp 57), type := 4, pos := "law.go:86", after := #[{ on := 14, ground := Ground.data }, { on := 12, ground := Ground.chain }], guard := none } : Oper)) (v := undef) rfl (by kernel_rfl) (by kernel_rfl) (by kernel_rfl) (fun _ _ _ h => h) (Or.inr ⟨by rfl, rfl⟩) (by assumption) ?_)
          | (refine wpAnyH_take (i := 15) (oi := ({ dst := some 58, op := Op.move (Operand.tmp 57), type := 4, pos := "law.go:86", after := #[{ on := 14, ground := Ground.data }, { on := 12, ground := Ground.chain }], guard := none } : Oper)) (v := ?_) rfl (by kernel_rfl) (by kernel_rfl) (by kernel_rfl) (fun _ _ _ h => h) (Or.inl ⟨by rfl, ?_⟩) (by assumption) ?_; rotate_left 1; (· (intro w hSw; (try dsimp only at hSw); go_simp; try with_reducible rfl)))
        try simp only [Act.put, List.setIfInBounds_toArray, List.set_cons_zero, List.set_cons_succ]
        -- operation 16
        first
          | (refine wpAnyH_take (i := 16) (oi := ({ dst := some 59, op := Op.move (Operand.tmp 6), type := 2, pos := "law.go:86", after := #[{ on := 15, ground := Ground.guard }], guard := some (15, true) } : Oper)) (v := undef) rfl (by kernel_rfl) (by kernel_rfl) (by kernel_rfl) (fun _ _ _ h => h) (Or.inr ⟨by rfl, rfl⟩) (by assumption) ?_)
          | (refine wpAnyH_take (i := 16) (oi := ({ dst := some 59, op := Op.move (Operand.tmp 6), type := 2, pos := "law.go:86", after := #[{ on := 15, ground := Ground.guard }], guard := some (15, true) } : Oper)) (v := ?_) rfl (by kernel_rfl) (by kernel_rfl) (by kernel_rfl) (fun _ _ _ h => h) (Or.inl ⟨by rfl, ?_⟩) (by assumption) ?_; rotate_left 1; (· (intro w hSw; (try dsimp only at hSw); go_simp; try with_reducible rfl)))
        try simp only [Act.put, List.setIfInBounds_toArray, List.set_cons_zero, List.set_cons_succ]
        -- operation 17
        first
          | (refine wpAnyH_take (i := 17) (oi := ({ dst := some 60, op := Op.binOp BinOp.eql 2 (Operand.tmp 59) (Operand.const (Value.int IntKind.i64 0)) 2, type := 4, pos := "law.go:86", after := #[{ on := 16, ground := Ground.data }, { on := 15, ground := Ground.guard }], guard := some (15, true) } : Oper)) (v := undef) rfl (by kernel_rfl) (by kernel_rfl) (by kernel_rfl) (fun _ _ _ h => h) (Or.inr ⟨by rfl, rfl⟩) (by assumption) ?_)
          | (refine wpAnyH_take (i := 17) (oi := ({ dst := some 60, op := Op.binOp BinOp.eql 2 (Operand.tmp 59) (Operand.const (Value.int IntKind.i64 0)) 2, type := 4, pos := "law.go:86", after := #[{ on := 16, ground := Ground.data }, { on := 15, ground := Ground.guard }], guard := some (15, true) } : Oper)) (v := ?_) rfl (by kernel_rfl) (by kernel_rfl) (by kernel_rfl) (fun _ _ _ h => h) (Or.inl ⟨by rfl, ?_⟩) (by assumption) ?_; rotate_left 1; (· (intro w hSw; (try dsimp only at hSw); go_simp; try with_reducible rfl)))
        try simp only [Act.put, List.setIfInBounds_toArray, List.set_cons_zero, List.set_cons_succ]
        -- operation 18
        first
          | (refine wpAnyH_take (i := 18) (oi := ({ dst := some 61, op := Op.move (Operand.tmp 60), type := 4, pos := "law.go:86", after := #[{ on := 17, ground := Ground.data }, { on := 15, ground := Ground.chain }, { on := 15, ground := Ground.guard }], guard := some (15, true) } : Oper)) (v := undef) rfl (by kernel_rfl) (by kernel_rfl) (by kernel_rfl) (fun _ _ _ h => h) (Or.inr ⟨by rfl, rfl⟩) (by assumption) ?_)
          | (refine wpAnyH_take (i := 18) (oi := ({ dst := some 61, op := Op.move (Operand.tmp 60), type := 4, pos := "law.go:86", after := #[{ on := 17, ground := Ground.data }, { on := 15, ground := Ground.chain }, { on := 15, ground := Ground.guard }], guard := some (15, true) } : Oper)) (v := ?_) rfl (by kernel_rfl) (by kernel_rfl) (by kernel_rfl) (fun _ _ _ h => h) (Or.inl ⟨by rfl, ?_⟩) (by assumption) ?_; rotate_left 1; (· (intro w hSw; (try dsimp only at hSw); go_simp; try with_reducible rfl)))
        try simp only [Act.put, List.setIfInBounds_toArray, List.set_cons_zero, List.set_cons_succ]
        -- operation 19
        first
          | (refine wpAnyH_take (i := 19) (oi := ({ dst := some 62, op := Op.load 26 (Operand.tmp 10), type := 26, pos := "law.go:86", after := #[{ on := 18, ground := Ground.guard }], guard := some (18, true) } : Oper)) (v := undef) rfl (by kernel_rfl) (by kernel_rfl) (by kernel_rfl) (fun _ _ _ h => h) (Or.inr ⟨by rfl, rfl⟩) (by assumption) ?_)
          | (refine wpAnyH_take (i := 19) (oi := ({ dst := some 62, op := Op.load 26 (Operand.tmp 10), type := 26, pos := "law.go:86", after := #[{ on := 18, ground := Ground.guard }], guard := some (18, true) } : Oper)) (v := ?_) rfl (by kernel_rfl) (by kernel_rfl) (by kernel_rfl) (fun _ _ _ h => h) (Or.inl ⟨by rfl, ?_⟩) (by assumption) ?_; rotate_left 1; (· (intro w hSw; (try dsimp only at hSw); go_simp; try with_reducible rfl)))
        try simp only [Act.put, List.setIfInBounds_toArray, List.set_cons_zero, List.set_cons_succ]
        -- operation 20
        first
          | (refine wpAnyH_take (i := 20) (oi := ({ dst := some 63, op := Op.call { callee := Callee.value (Operand.func 18), args := #[Operand.const (Value.int IntKind.i64 6)], argTypes := #[3] }, type := 26, pos := "law.go:86", after := #[{ on := 18, ground := Ground.chain }, { on := 18, ground := Ground.guard }], guard := some (18, true) } : Oper)) (v := undef) rfl (by kernel_rfl) (by kernel_rfl) (by kernel_rfl) (fun _ _ _ h => h) (Or.inr ⟨by rfl, rfl⟩) (by assumption) ?_)
          | (refine wpAnyH_ready (rs := [20]) (by kernel_rfl) (by simp) ?_; refine AllReadyH.cons (o := ({ dst := some 63, op := Op.call { callee := Callee.value (Operand.func 18), args := #[Operand.const (Value.int IntKind.i64 6)], argTypes := #[3] }, type := 26, pos := "law.go:86", after := #[{ on := 18, ground := Ground.chain }, { on := 18, ground := Ground.guard }], guard := some (18, true) } : Oper)) rfl (fun K hK => ?_) AllReadyH.nil; go_simp; (first | (refine (vfail_any 6 _).mono ?_; rintro e w5 ⟨rfl, hb5⟩) | (refine (HC.out _ (hvm.below (And.left (by assumption)))).mono ?_; rintro e w5 ⟨rfl, hb5⟩) | (refine (HSI.out _ (hvm.below (And.left (by assumption)))).mono ?_; rintro e w5 ⟨rfl, hb5⟩) | (refine (HSU.out _ (hsm.below (And.left (by assumption)))).mono ?_; rintro e w5 ⟨rfl, hb5⟩) | (refine (vnum_any _ _).mono ?_; rintro e w5 ⟨rfl, hb5⟩)); (try go_wp2_with fail); refine hK.out _ _ ?_ (fun hHeld => ?_); (· ((try dsimp only); first | assumption | exact hbW | exact held2 lm lx (by assumption) (by assumption))); clear hK K)
        try simp only [Act.put, List.setIfInBounds_toArray, List.set_cons_zero, List.set_cons_succ]
        -- operation 21
        first
          | (refine wpAnyH_take (i := 21) (oi := ({ dst := some 64, op := Op.binOp BinOp.eql 26 (Operand.tmp 62) (Operand.tmp 63) 26, type := 4, pos := "law.go:86", after := #[{ on := 19, ground := Ground.data }, { on := 20, ground := Ground.data }, { on := 18, ground := Ground.guard }], guard := some (18, true) } : Oper)) (v := undef) rfl (by kernel_rfl) (by kernel_rfl) (by kernel_rfl) (fun _ _ _ h => h) (Or.inr ⟨by rfl, rfl⟩) (by assumption) ?_)
          | (refine wpAnyH_take (i := 21) (oi := ({ dst := some 64, op := Op.binOp BinOp.eql 26 (Operand.tmp 62) (Operand.tmp 63) 26, type := 4, pos := "law.go:86", after := #[{ on := 19, ground := Ground.data }, { on := 20, ground := Ground.data }, { on := 18, ground := Ground.guard }], guard := some (18, true) } : Oper)) (v := ?_) rfl (by kernel_rfl) (by kernel_rfl) (by kernel_rfl) (fun _ _ _ h => h) (Or.inl ⟨by rfl, ?_⟩) (by assumption) ?_; rotate_left 1; (· (intro w hSw; (try dsimp only at hSw); go_simp; try with_reducible rfl)))
        try simp only [Act.put, List.setIfInBounds_toArray, List.set_cons_zero, List.set_cons_succ]
        -- operation 22
        first
          | (refine wpAnyH_take (i := 22) (oi := ({ dst := some 65, op := Op.pick (Operand.tmp 61) (Operand.tmp 64) (Operand.const (Value.bool false)), type := 4, pos := "law.go:86", after := #[{ on := 18, ground := Ground.data }, { on := 21, ground := Ground.data }, { on := 15, ground := Ground.guard }], guard := some (15, true) } : Oper)) (v := undef) rfl (by kernel_rfl) (by kernel_rfl) (by kernel_rfl) (fun _ _ _ h => h) (Or.inr ⟨by rfl, rfl⟩) (by assumption) ?_)
          | (refine wpAnyH_take (i := 22) (oi := ({ dst := some 65, op := Op.pick (Operand.tmp 61) (Operand.tmp 64) (Operand.const (Value.bool false)), type := 4, pos := "law.go:86", after := #[{ on := 18, ground := Ground.data }, { on := 21, ground := Ground.data }, { on := 15, ground := Ground.guard }], guard := some (15, true) } : Oper)) (v := ?_) rfl (by kernel_rfl) (by kernel_rfl) (by kernel_rfl) (fun _ _ _ h => h) (Or.inl ⟨by rfl, ?_⟩) (by assumption) ?_; rotate_left 1; (· (intro w hSw; (try dsimp only at hSw); go_simp; try with_reducible rfl)))
        try simp only [Act.put, List.setIfInBounds_toArray, List.set_cons_zero, List.set_cons_succ]
        -- operation 23
        first
          | (refine wpAnyH_take (i := 23) (oi := ({ dst := some 66, op := Op.move (Operand.tmp 65), type := 4, pos := "law.go:86", after := #[{ on := 22, ground := Ground.data }, { on := 20, ground := Ground.chain }, { on := 15, ground := Ground.guard }], guard := some (15, true) } : Oper)) (v := undef) rfl (by kernel_rfl) (by kernel_rfl) (by kernel_rfl) (fun _ _ _ h => h) (Or.inr ⟨by rfl, rfl⟩) (by assumption) ?_)
          | (refine wpAnyH_take (i := 23) (oi := ({ dst := some 66, op := Op.move (Operand.tmp 65), type := 4, pos := "law.go:86", after := #[{ on := 22, ground := Ground.data }, { on := 20, ground := Ground.chain }, { on := 15, ground := Ground.guard }], guard := some (15, true) } : Oper)) (v := ?_) rfl (by kernel_rfl) (by kernel_rfl) (by kernel_rfl) (fun _ _ _ h => h) (Or.inl ⟨by rfl, ?_⟩) (by assumption) ?_; rotate_left 1; (· (intro w hSw; (try dsimp only at hSw); go_simp; try with_reducible rfl)))
        try simp only [Act.put, List.setIfInBounds_toArray, List.set_cons_zero, List.set_cons_succ]
        -- operation 24
        first
          | (refine wpAnyH_take (i := 24) (oi := ({ dst := some 67, op := Op.move (Operand.tmp 6), type := 2, pos := "law.go:86", after := #[{ on := 23, ground := Ground.guard }], guard := some (23, false) } : Oper)) (v := undef) rfl (by kernel_rfl) (by kernel_rfl) (by kernel_rfl) (fun _ _ _ h => h) (Or.inr ⟨by rfl, rfl⟩) (by assumption) ?_)
          | (refine wpAnyH_take (i := 24) (oi := ({ dst := some 67, op := Op.move (Operand.tmp 6), type := 2, pos := "law.go:86", after := #[{ on := 23, ground := Ground.guard }], guard := some (23, false) } : Oper)) (v := ?_) rfl (by kernel_rfl) (by kernel_rfl) (by kernel_rfl) (fun _ _ _ h => h) (Or.inl ⟨by rfl, ?_⟩) (by assumption) ?_; rotate_left 1; (· (intro w hSw; (try dsimp only at hSw); go_simp; try with_reducible rfl)))
        try simp only [Act.put, List.setIfInBounds_toArray, List.set_cons_zero, List.set_cons_succ]
        -- operation 25
        first
          | (refine wpAnyH_take (i := 25) (oi := ({ dst := some 68, op := Op.binOp BinOp.gtr 2 (Operand.tmp 67) (Operand.const (Value.int IntKind.i64 0)) 2, type := 4, pos := "law.go:86", after := #[{ on := 24, ground := Ground.data }, { on := 23, ground := Ground.guard }], guard := some (23, false) } : Oper)) (v := undef) rfl (by kernel_rfl) (by kernel_rfl) (by kernel_rfl) (fun _ _ _ h => h) (Or.inr ⟨by rfl, rfl⟩) (by assumption) ?_)
          | (refine wpAnyH_take (i := 25) (oi := ({ dst := some 68, op := Op.binOp BinOp.gtr 2 (Operand.tmp 67) (Operand.const (Value.int IntKind.i64 0)) 2, type := 4, pos := "law.go:86", after := #[{ on := 24, ground := Ground.data }, { on := 23, ground := Ground.guard }], guard := some (23, false) } : Oper)) (v := ?_) rfl (by kernel_rfl) (by kernel_rfl) (by kernel_rfl) (fun _ _ _ h => h) (Or.inl ⟨by rfl, ?_⟩) (by assumption) ?_; rotate_left 1; (· (intro w hSw; (try dsimp only at hSw); go_simp; try with_reducible rfl)))
        try simp only [Act.put, List.setIfInBounds_toArray, List.set_cons_zero, List.set_cons_succ]
        -- operation 26
        first
          | (refine wpAnyH_take (i := 26) (oi := ({ dst := some 69, op := Op.move (Operand.tmp 68), type := 4, pos := "law.go:86", after := #[{ on := 25, ground := Ground.data }, { on := 23, ground := Ground.chain }, { on := 23, ground := Ground.guard }], guard := some (23, false) } : Oper)) (v := undef) rfl (by kernel_rfl) (by kernel_rfl) (by kernel_rfl) (fun _ _ _ h => h) (Or.inr ⟨by rfl, rfl⟩) (by assumption) ?_)
          | (refine wpAnyH_take (i := 26) (oi := ({ dst := some 69, op := Op.move (Operand.tmp 68), type := 4, pos := "law.go:86", after := #[{ on := 25, ground := Ground.data }, { on := 23, ground := Ground.chain }, { on := 23, ground := Ground.guard }], guard := some (23, false) } : Oper)) (v := ?_) rfl (by kernel_rfl) (by kernel_rfl) (by kernel_rfl) (fun _ _ _ h => h) (Or.inl ⟨by rfl, ?_⟩) (by assumption) ?_; rotate_left 1; (· (intro w hSw; (try dsimp only at hSw); go_simp; try with_reducible rfl)))
        try simp only [Act.put, List.setIfInBounds_toArray, List.set_cons_zero, List.set_cons_succ]
        -- operation 27
        first
          | (refine wpAnyH_take (i := 27) (oi := ({ dst := some 70, op := Op.load 26 (Operand.tmp 10), type := 26, pos := "law.go:86", after := #[{ on := 26, ground := Ground.guard }], guard := some (26, true) } : Oper)) (v := undef) rfl (by kernel_rfl) (by kernel_rfl) (by kernel_rfl) (fun _ _ _ h => h) (Or.inr ⟨by rfl, rfl⟩) (by assumption) ?_)
          | (refine wpAnyH_take (i := 27) (oi := ({ dst := some 70, op := Op.load 26 (Operand.tmp 10), type := 26, pos := "law.go:86", after := #[{ on := 26, ground := Ground.guard }], guard := some (26, true) } : Oper)) (v := ?_) rfl (by kernel_rfl) (by kernel_rfl) (by kernel_rfl) (fun _ _ _ h => h) (Or.inl ⟨by rfl, ?_⟩) (by assumption) ?_; rotate_left 1; (· (intro w hSw; (try dsimp only at hSw); go_simp; try with_reducible rfl)))
        try simp only [Act.put, List.setIfInBounds_toArray, List.set_cons_zero, List.set_cons_succ]
        -- operation 28
        first
          | (refine wpAnyH_take (i := 28) (oi := ({ dst := some 71, op := Op.move (Operand.tmp 6), type := 2, pos := "law.go:86", after := #[{ on := 26, ground := Ground.guard }], guard := some (26, true) } : Oper)) (v := undef) rfl (by kernel_rfl) (by kernel_rfl) (by kernel_rfl) (fun _ _ _ h => h) (Or.inr ⟨by rfl, rfl⟩) (by assumption) ?_)
          | (refine wpAnyH_take (i := 28) (oi := ({ dst := some 71, op := Op.move (Operand.tmp 6), type := 2, pos := "law.go:86", after := #[{ on := 26, ground := Ground.guard }], guard := some (26, true) } : Oper)) (v := ?_) rfl (by kernel_rfl) (by kernel_rfl) (by kernel_rfl) (fun _ _ _ h => h) (Or.inl ⟨by rfl, ?_⟩) (by assumption) ?_; rotate_left 1; (· (intro w hSw; (try dsimp only at hSw); go_simp; try with_reducible rfl)))
        try simp only [Act.put, List.setIfInBounds_toArray, List.set_cons_zero, List.set_cons_succ]
        -- operation 29
        first
          | (refine wpAnyH_take (i := 29) (oi := ({ dst := some 72, op := Op.binOp BinOp.mul 2 (Operand.tmp 71) (Operand.const (Value.int IntKind.i64 1000000)) 2, type := 2, pos := "law.go:86", after := #[{ on := 28, ground := Ground.data }, { on := 26, ground := Ground.guard }], guard := some (26, true) } : Oper)) (v := undef) rfl (by kernel_rfl) (by kernel_rfl) (by kernel_rfl) (fun _ _ _ h => h) (Or.inr ⟨by rfl, rfl⟩) (by assumption) ?_)
          | (refine wpAnyH_take (i := 29) (oi := ({ dst := some 72, op := Op.binOp BinOp.mul 2 (Operand.tmp 71) (Operand.const (Value.int IntKind.i64 1000000)) 2, type := 2, pos := "law.go:86", after := #[{ on := 28, ground := Ground.data }, { on := 26, ground := Ground.guard }], guard := some (26, true) } : Oper)) (v := ?_) rfl (by kernel_rfl) (by kernel_rfl) (by kernel_rfl) (fun _ _ _ h => h) (Or.inl ⟨by rfl, ?_⟩) (by assumption) ?_; rotate_left 1; (· (intro w hSw; (try dsimp only at hSw); go_simp; try with_reducible rfl)))
        try simp only [Act.put, List.setIfInBounds_toArray, List.set_cons_zero, List.set_cons_succ]
        -- operation 30
        first
          | (refine wpAnyH_take (i := 30) (oi := ({ dst := some 73, op := Op.call { callee := Callee.value (Operand.func 16), args := #[Operand.tmp 72], argTypes := #[2] }, type := 26, pos := "law.go:86", after := #[{ on := 29, ground := Ground.data }, { on := 26, ground := Ground.chain }, { on := 26, ground := Ground.guard }], guard := some (26, true) } : Oper)) (v := undef) rfl (by kernel_rfl) (by kernel_rfl) (by kernel_rfl) (fun _ _ _ h => h) (Or.inr ⟨by rfl, rfl⟩) (by assumption) ?_)
          | (refine wpAnyH_ready (rs := [30]) (by kernel_rfl) (by simp) ?_; refine AllReadyH.cons (o := ({ dst := some 73, op := Op.call { callee := Callee.value (Operand.func 16), args := #[Operand.tmp 72], argTypes := #[2] }, type := 26, pos := "law.go:86", after := #[{ on := 29, ground := Ground.data }, { on := 26, ground := Ground.chain }, { on := 26, ground := Ground.guard }], guard := some (26, true) } : Oper)) rfl (fun K hK => ?_) AllReadyH.nil; go_simp; (first | (refine (vfail_any 6 _).mono ?_; rintro e w5 ⟨rfl, hb5⟩) | (refine (HC.out _ (hvm.below (And.left (by assumption)))).mono ?_; rintro e w5 ⟨rfl, hb5⟩) | (refine (HSI.out _ (hvm.below (And.left (by assumption)))).mono ?_; rintro e w5 ⟨rfl, hb5⟩) | (refine (HSU.out _ (hsm.below (And.left (by assumption)))).mono ?_; rintro e w5 ⟨rfl, hb5⟩) | (refine (vnum_any _ _).mono ?_; rintro e w5 ⟨rfl, hb5⟩)); (try go_wp2_with fail); refine hK.out _ _ ?_ (fun hHeld => ?_); (· ((try dsimp only); first | assumption | exact hbW | exact held2 lm lx (by assumption) (by assumption))); clear hK K)
        try simp only [Act.put, List.setIfInBounds_toArray, List.set_cons_zero, List.set_cons_succ]
        -- operation 31
        first
          | (refine wpAnyH_take (i := 31) (oi := ({ dst := some 74, op := Op.binOp BinOp.eql 26 (Operand.tmp 70) (Operand.tmp 73) 26, type := 4, pos := "law.go:86", after := #[{ on := 27, ground := Ground.data }, { on := 30, ground := Ground.data }, { on := 26, ground := Ground.guard }], guard := some (26, true) } : Oper)) (v := undef) rfl (by kernel_rfl) (by kernel_rfl) (by kernel_rfl) (fun _ _ _ h => h) (Or.inr ⟨by rfl, rfl⟩) (by assumption) ?_)
          | (refine wpAnyH_take (i := 31) (oi := ({ dst := some 74, op := Op.binOp BinOp.eql 26 (Operand.tmp 70) (Operand.tmp 73) 26, type := 4, pos := "law.go:86", after := #[{ on := 27, ground := Ground.data }, { on := 30, ground := Ground.data }, { on := 26, ground := Ground.guard }], guard := some (26, true) } : Oper)) (v := ?_) rfl (by kernel_rfl) (by kernel_rfl) (by kernel_rfl) (fun _ _ _ h => h) (Or.inl ⟨by rfl, ?_⟩) (by assumption) ?_; rotate_left 1; (· (intro w hSw; (try dsimp only at hSw); go_simp; try with_reducible rfl)))
        try simp only [Act.put, List.setIfInBounds_toArray, List.set_cons_zero, List.set_cons_succ]
        -- operation 32
        first
          | (refine wpAnyH_take (i := 32) (oi := ({ dst := some 75, op := Op.pick (Operand.tmp 69) (Operand.tmp 74) (Operand.const (Value.bool false)), type := 4, pos := "law.go:86", after := #[{ on := 26, ground := Ground.data }, { on := 31, ground := Ground.data }, { on := 23, ground := Ground.guard }], guard := some (23, false) } : Oper)) (v := undef) rfl (by kernel_rfl) (by kernel_rfl) (by kernel_rfl) (fun _ _ _ h => h) (Or.inr ⟨by rfl, rfl⟩) (by assumption) ?_)
          | (refine wpAnyH_take (i := 32) (oi := ({ dst := some 75, op := Op.pick (Operand.tmp 69) (Operand.tmp 74) (Operand.const (Value.bool false)), type := 4, pos := "law.go:86", after := #[{ on := 26, ground := Ground.data }, { on := 31, ground := Ground.data }, { on := 23, ground := Ground.guard }], guard := some (23, false) } : Oper)) (v := ?_) rfl (by kernel_rfl) (by kernel_rfl) (by kernel_rfl) (fun _ _ _ h => h) (Or.inl ⟨by rfl, ?_⟩) (by assumption) ?_; rotate_left 1; (· (intro w hSw; (try dsimp only at hSw); go_simp; try with_reducible rfl)))
        try simp only [Act.put, List.setIfInBounds_toArray, List.set_cons_zero, List.set_cons_succ]
        -- operation 33
        first
          | (refine wpAnyH_take (i := 33) (oi := ({ dst := some 76, op := Op.pick (Operand.tmp 66) (Operand.const (Value.bool true)) (Operand.tmp 75), type := 4, pos := "law.go:86", after := #[{ on := 23, ground := Ground.data }, { on := 32, ground := Ground.data }, { on := 15, ground := Ground.guard }], guard := some (15, true) } : Oper)) (v := undef) rfl (by kernel_rfl) (by kernel_rfl) (by kernel_rfl) (fun _ _ _ h => h) (Or.inr ⟨by rfl, rfl⟩) (by assumption) ?_)
          | (refine wpAnyH_take (i := 33) (oi := ({ dst := some 76, op := Op.pick (Operand.tmp 66) (Operand.const (Value.bool true)) (Operand.tmp 75), type := 4, pos := "law.go:86", after := #[{ on := 23, ground := Ground.data }, { on := 32, ground := Ground.data }, { on := 15, ground := Ground.guard }], guard := some (15, true) } : Oper)) (v := ?_) rfl (by kernel_rfl) (by kernel_rfl) (by kernel_rfl) (fun _ _ _ h => h) (Or.inl ⟨by rfl, ?_⟩) (by assumption) ?_; rotate_left 1; (· (intro w hSw; (try dsimp only at hSw); go_simp; try with_reducible rfl)))
        try simp only [Act.put, List.setIfInBounds_toArray, List.set_cons_zero, List.set_cons_succ]
        -- operation 34
        first
          | (refine wpAnyH_take (i := 34) (oi := ({ dst := some 77, op := Op.pick (Operand.tmp 58) (Operand.tmp 76) (Operand.const (Value.bool false)), type := 4, pos := "law.go:86", after := #[{ on := 15, ground := Ground.data }, { on := 33, ground := Ground.data }], guard := none } : Oper)) (v := undef) rfl (by kernel_rfl) (by kernel_rfl) (by kernel_rfl) (fun _ _ _ h => h) (Or.inr ⟨by rfl, rfl⟩) (by assumption) ?_)
          | (refine wpAnyH_take (i := 34) (oi := ({ dst := some 77, op := Op.pick (Operand.tmp 58) (Operand.tmp 76) (Operand.const (Value.bool false)), type := 4, pos := "law.go:86", after := #[{ on := 15, ground := Ground.data }, { on := 33, ground := Ground.data }], guard := none } : Oper)) (v := ?_) rfl (by kernel_rfl) (by kernel_rfl) (by kernel_rfl) (fun _ _ _ h => h) (Or.inl ⟨by rfl, ?_⟩) (by assumption) ?_; rotate_left 1; (· (intro w hSw; (try dsimp only at hSw); go_simp; try with_reducible rfl)))
        try simp only [Act.put, List.setIfInBounds_toArray, List.set_cons_zero, List.set_cons_succ]
        -- operation 35
        first
          | (refine wpAnyH_take (i := 35) (oi := ({ dst := some 4, op := Op.assign (Operand.tmp 77), type := 4, pos := "law.go:86", after := #[{ on := 34, ground := Ground.data }, { on := 30, ground := Ground.chain }, { on := 0, ground := Ground.phase }, { on := 1, ground := Ground.phase }, { on := 2, ground := Ground.phase }, { on := 3, ground := Ground.phase }, { on := 4, ground := Ground.phase }, { on := 5, ground := Ground.phase }, { on := 6, ground := Ground.phase }, { on := 7, ground := Ground.phase }, { on := 8, ground := Ground.phase }, { on := 9, ground := Ground.phase }, { on := 10, ground := Ground.phase }, { on := 11, ground := Ground.phase }, { on := 12, ground := Ground.phase }, { on := 13, ground := Ground.phase }, { on := 14, ground := Ground.phase }, { on := 15, ground := Ground.phase }, { on := 16, ground := Ground.phase }, { on := 17, ground := Ground.phase }, { on := 18, ground := Ground.phase }, { on := 19, ground := Ground.phase }, { on := 20, ground := Ground.phase }, { on := 21, ground := Ground.phase }, { on := 22, ground := Ground.phase }, { on := 23, ground := Ground.phase }, { on := 24, ground := Ground.phase }, { on := 25, ground := Ground.phase }, { on := 26, ground := Ground.phase }, { on := 27, ground := Ground.phase }, { on := 28, ground := Ground.phase }, { on := 29, ground := Ground.phase }, { on := 30, ground := Ground.phase }, { on := 31, ground := Ground.phase }, { on := 32, ground := Ground.phase }, { on := 33, ground := Ground.phase }, { on := 34, ground := Ground.phase }], guard := none } : Oper)) (v := undef) rfl (by kernel_rfl) (by kernel_rfl) (by kernel_rfl) (fun _ _ _ h => h) (Or.inr ⟨by rfl, rfl⟩) (by assumption) ?_)
          | (refine wpAnyH_take (i := 35) (oi := ({ dst := some 4, op := Op.assign (Operand.tmp 77), type := 4, pos := "law.go:86", after := #[{ on := 34, ground := Ground.data }, { on := 30, ground := Ground.chain }, { on := 0, ground := Ground.phase }, { on := 1, ground := Ground.phase }, { on := 2, ground := Ground.phase }, { on := 3, ground := Ground.phase }, { on := 4, ground := Ground.phase }, { on := 5, ground := Ground.phase }, { on := 6, ground := Ground.phase }, { on := 7, ground := Ground.phase }, { on := 8, ground := Ground.phase }, { on := 9, ground := Ground.phase }, { on := 10, ground := Ground.phase }, { on := 11, ground := Ground.phase }, { on := 12, ground := Ground.phase }, { on := 13, ground := Ground.phase }, { on := 14, ground := Ground.phase }, { on := 15, ground := Ground.phase }, { on := 16, ground := Ground.phase }, { on := 17, ground := Ground.phase }, { on := 18, ground := Ground.phase }, { on := 19, ground := Ground.phase }, { on := 20, ground := Ground.phase }, { on := 21, ground := Ground.phase }, { on := 22, ground := Ground.phase }, { on := 23, ground := Ground.phase }, { on := 24, ground := Ground.phase }, { on := 25, ground := Ground.phase }, { on := 26, ground := Ground.phase }, { on := 27, ground := Ground.phase }, { on := 28, ground := Ground.phase }, { on := 29, ground := Ground.phase }, { on := 30, ground := Ground.phase }, { on := 31, ground := Ground.phase }, { on := 32, ground := Ground.phase }, { on := 33, ground := Ground.phase }, { on := 34, ground := Ground.phase }], guard := none } : Oper)) (v := ?_) rfl (by kernel_rfl) (by kernel_rfl) (by kernel_rfl) (fun _ _ _ h => h) (Or.inl ⟨by rfl, ?_⟩) (by assumption) ?_; rotate_left 1; (· (intro w hSw; (try dsimp only at hSw); go_simp; try with_reducible rfl)))
        try simp only [Act.put, List.setIfInBounds_toArray, List.set_cons_zero, List.set_cons_succ]
        refine wpAnyH_done (by kernel_rfl) ?_ _
        go_split_ands
        go_wp2
        go_ret
        exact ⟨rfl, hbm.th (by assumption)⟩
      · have hm := fun w h => match_yes x a len cap L w h (by omega) k hk (by rw [← hpe]; exact hpk) (fun j hj => by rw [← hpe]; exact hfk j hj)
        have kwr : IntKind.i64.wrap (((k : Int) + 1) * 1000000) = ((k : Int) + 1) * 1000000 := by rw [IntKind.wrap_i64]; omega
        obtain ⟨NK, hNK⟩ : ∃ z, ((k : Int) + 1) * 1000000 = z := ⟨_, rfl⟩
        rw [hNK] at hm kwr
        have kwr0 : IntKind.i64.wrap NK = NK := by rw [← hNK, IntKind.wrap_i64]; omega
        have t1 : ((k : Int) + 1 == 0) = false := by simp; omega
        have t2 : 0 < (k : Int) + 1 := by omega
        have HM := Lib.hid hm
        clear hm hpk hfk hpe
        have hX3 := (HX2.out.step hbW2)
        obtain ⟨x0, x1, x2, x3⟩ := HX2.out.step hbW2
        have HX3 := Lib.hid hX3
        have hv3 := hv2.below hbW2
        clear hX3 HX2 hv2 hb2 hbW2
        go_wp2_with fail
        refine (HM.out _ hv3).mono ?_
        rintro e w3 ⟨rfl, hb3'⟩
        have hb3 := hbw.th hb3'
        have hv4 := hv3.below hb3'
        have hs4 := hin'.below hb3'
        have hX4 := HX3.out.step hb3'
        obtain ⟨Wm, hWm, bm, xm, sm⟩ := start_x w3 1 NK { data := #[] }
        have HWm := Lib.hid hWm
        have hbm := hb3.th bm
        have hvm := hv4.below bm
        have hsm := hs4.below bm
        have hXm := hX4.step bm
        have hbW := held2_start xm hXm
        have lm : w3.heap.size < Wm.heap.size := xm.1
        have lx : w.heap.size < Wm.heap.size := hXm.1
        clear hv3 hb3' HX3 hWm hb3 hv4 hs4 hX4 bm sm x0 x1 x2 x3 hbw hin'
        go_wp2_with fail
        rw [HWm.out]
        refine wp_region_held_drew (S := (fun w' => Below Wm.heap.size Wm w' ∧ w'.cell? ⟨w3.heap.size, 0, none⟩ = some (.int .i64 1) ∧ w'.cell? ⟨w3.heap.size, 1, none⟩ = some (.int .i64 NK) ∧ w'.cell? ⟨w3.heap.size, 2, none⟩ = some (.string { data := #[] }) ∧ w'.cell? ⟨w.heap.size, 0, none⟩ = some (.int .i64 x.k) ∧ w'.cell? ⟨w.heap.size, 1, none⟩ = some (.int .i64 x.n) ∧ w'.cell? ⟨w.heap.size, 2, none⟩ = some (.string x.s))) (by kernel_rfl) ?_ (fun hHeld => ?_)
        · (try dsimp only); first | assumption | exact hbW | exact held2 lm lx (by assumption) (by assumption)
        -- operation 0
        first
          | (refine wpAnyH_take (i := 0) (oi := ({ dst := some 43, op := Op.load 26 (Operand.tmp 2), type := 26, pos := "law.go:86", after := #[], guard := none } : Oper)) (v := undef) rfl (by kernel_rfl) (by kernel_rfl) (by kernel_rfl) (fun _ _ _ h => h) (Or.inr ⟨by rfl, rfl⟩) (by assumption) ?_)
          | (refine wpAnyH_take (i := 0) (oi := ({ dst := some 43, op := Op.load 26 (Operand.tmp 2), type := 26, pos := "law.go:86", after := #[], guard := none } : Oper)) (v := ?_) rfl (by kernel_rfl) (by kernel_rfl) (by kernel_rfl) (fun _ _ _ h => h) (Or.inl ⟨by rfl, ?_⟩) (by assumption) ?_; rotate_left 1; (· (intro w hSw; (try dsimp only at hSw); go_simp; try with_reducible rfl)))
        try simp only [Act.put, List.setIfInBounds_toArray, List.set_cons_zero, List.set_cons_succ]
        -- operation 1
        first
          | (refine wpAnyH_take (i := 1) (oi := ({ dst := some 44, op := Op.move (Operand.tmp 1), type := 22, pos := "law.go:86", after := #[], guard := none } : Oper)) (v := undef) rfl (by kernel_rfl) (by kernel_rfl) (by kernel_rfl) (fun _ _ _ h => h) (Or.inr ⟨by rfl, rfl⟩) (by assumption) ?_)
          | (refine wpAnyH_take (i := 1) (oi := ({ dst := some 44, op := Op.move (Operand.tmp 1), type := 22, pos := "law.go:86", after := #[], guard := none } : Oper)) (v := ?_) rfl (by kernel_rfl) (by kernel_rfl) (by kernel_rfl) (fun _ _ _ h => h) (Or.inl ⟨by rfl, ?_⟩) (by assumption) ?_; rotate_left 1; (· (intro w hSw; (try dsimp only at hSw); go_simp; try with_reducible rfl)))
        try simp only [Act.put, List.setIfInBounds_toArray, List.set_cons_zero, List.set_cons_succ]
        -- operation 3
        first
          | (refine wpAnyH_take (i := 3) (oi := ({ dst := some 46, op := Op.move (Operand.tmp 5), type := 2, pos := "law.go:86", after := #[], guard := none } : Oper)) (v := undef) rfl (by kernel_rfl) (by kernel_rfl) (by kernel_rfl) (fun _ _ _ h => h) (Or.inr ⟨by rfl, rfl⟩) (by assumption) ?_)
          | (refine wpAnyH_take (i := 3) (oi := ({ dst := some 46, op := Op.move (Operand.tmp 5), type := 2, pos := "law.go:86", after := #[], guard := none } : Oper)) (v := ?_) rfl (by kernel_rfl) (by kernel_rfl) (by kernel_rfl) (fun _ _ _ h => h) (Or.inl ⟨by rfl, ?_⟩) (by assumption) ?_; rotate_left 1; (· (intro w hSw; (try dsimp only at hSw); go_simp; try with_reducible rfl)))
        try simp only [Act.put, List.setIfInBounds_toArray, List.set_cons_zero, List.set_cons_succ]
        -- operation 4
        first
          | (refine wpAnyH_take (i := 4) (oi := ({ dst := some 47, op := Op.binOp BinOp.mul 2 (Operand.tmp 46) (Operand.const (Value.int IntKind.i64 1000000)) 2, type := 2, pos := "law.go:86", after := #[{ on := 3, ground := Ground.data }], guard := none } : Oper)) (v := undef) rfl (by kernel_rfl) (by kernel_rfl) (by kernel_rfl) (fun _ _ _ h => h) (Or.inr ⟨by rfl, rfl⟩) (by assumption) ?_)
          | (refine wpAnyH_take (i := 4) (oi := ({ dst := some 47, op := Op.binOp BinOp.mul 2 (Operand.tmp 46) (Operand.const (Value.int IntKind.i64 1000000)) 2, type := 2, pos := "law.go:86", after := #[{ on := 3, ground := Ground.data }], guard := none } : Oper)) (v := ?_) rfl (by kernel_rfl) (by kernel_rfl) (by kernel_rfl) (fun _ _ _ h => h) (Or.inl ⟨by rfl, ?_⟩) (by assumption) ?_; rotate_left 1; (· (intro w hSw; (try dsimp only at hSw); go_simp; try with_reducible rfl)))
        try simp only [Act.put, List.setIfInBounds_toArray, List.set_cons_zero, List.set_cons_succ]
        -- operation 2
        first
          | (refine wpAnyH_take (i := 2) (oi := ({ dst := some 45, op := Op.call { callee := Callee.value (Operand.func 15), args := #[Operand.tmp 43, Operand.tmp 44], argTypes := #[26, 22] }, type := 26, pos := "law.go:86", after := #[{ on := 0, ground := Ground.data }, { on := 1, ground := Ground.data }], guard := none } : Oper)) (v := undef) rfl (by kernel_rfl) (by kernel_rfl) (by kernel_rfl) (fun _ _ _ h => h) (Or.inr ⟨by rfl, rfl⟩) (by assumption) ?_)
          | (refine wpAnyH_ready (rs := [2]) (by kernel_rfl) (by simp) ?_; refine AllReadyH.cons (o := ({ dst := some 45, op := Op.call { callee := Callee.value (Operand.func 15), args := #[Operand.tmp 43, Operand.tmp 44], argTypes := #[26, 22] }, type := 26, pos := "law.go:86", after := #[{ on := 0, ground := Ground.data }, { on := 1, ground := Ground.data }], guard := none } : Oper)) rfl (fun K hK => ?_) AllReadyH.nil; go_simp; (first | (refine (vfail_any 6 _).mono ?_; rintro e w5 ⟨rfl, hb5⟩) | (refine (HC.out _ (hvm.below (And.left (by assumption)))).mono ?_; rintro e w5 ⟨rfl, hb5⟩) | (refine (HSI.out _ (hvm.below (And.left (by assumption)))).mono ?_; rintro e w5 ⟨rfl, hb5⟩) | (refine (HSU.out _ (hsm.below (And.left (by assumption)))).mono ?_; rintro e w5 ⟨rfl, hb5⟩) | (refine (vnum_any _ _).mono ?_; rintro e w5 ⟨rfl, hb5⟩)); (try go_wp2_with fail); refine hK.out _ _ ?_ (fun hHeld => ?_); (· ((try dsimp only); first | assumption | exact hbW | exact held2 lm lx (by assumption) (by assumption))); clear hK K)
        try simp only [Act.put, List.setIfInBounds_toArray, List.set_cons_zero, List.set_cons_succ]
        -- operation 5
        first
          | (refine wpAnyH_take (i := 5) (oi := ({ dst := some 48, op := Op.call { callee := Callee.value (Operand.func 16), args := #[Operand.tmp 47], argTypes := #[2] }, type := 26, pos := "law.go:86", after := #[{ on := 4, ground := Ground.data }, { on := 2, ground := Ground.chain }], guard := none } : Oper)) (v := undef) rfl (by kernel_rfl) (by kernel_rfl) (by kernel_rfl) (fun _ _ _ h => h) (Or.inr ⟨by rfl, rfl⟩) (by assumption) ?_)
          | (refine wpAnyH_ready (rs := [5]) (by kernel_rfl) (by simp) ?_; refine AllReadyH.cons (o := ({ dst := some 48, op := Op.call { callee := Callee.value (Operand.func 16), args := #[Operand.tmp 47], argTypes := #[2] }, type := 26, pos := "law.go:86", after := #[{ on := 4, ground := Ground.data }, { on := 2, ground := Ground.chain }], guard := none } : Oper)) rfl (fun K hK => ?_) AllReadyH.nil; go_simp; (first | (refine (vfail_any 6 _).mono ?_; rintro e w5 ⟨rfl, hb5⟩) | (refine (HC.out _ (hvm.below (And.left (by assumption)))).mono ?_; rintro e w5 ⟨rfl, hb5⟩) | (refine (HSI.out _ (hvm.below (And.left (by assumption)))).mono ?_; rintro e w5 ⟨rfl, hb5⟩) | (refine (HSU.out _ (hsm.below (And.left (by assumption)))).mono ?_; rintro e w5 ⟨rfl, hb5⟩) | (refine (vnum_any _ _).mono ?_; rintro e w5 ⟨rfl, hb5⟩)); (try go_wp2_with fail); refine hK.out _ _ ?_ (fun hHeld => ?_); (· ((try dsimp only); first | assumption | exact hbW | exact held2 lm lx (by assumption) (by assumption))); clear hK K)
        try simp only [Act.put, List.setIfInBounds_toArray, List.set_cons_zero, List.set_cons_succ]
        -- operation 6
        first
          | (refine wpAnyH_take (i := 6) (oi := ({ dst := some 49, op := Op.binOp BinOp.eql 26 (Operand.tmp 45) (Operand.tmp 48) 26, type := 4, pos := "law.go:86", after := #[{ on := 2, ground := Ground.data }, { on := 5, ground := Ground.data }], guard := none } : Oper)) (v := undef) rfl (by kernel_rfl) (by kernel_rfl) (by kernel_rfl) (fun _ _ _ h => h) (Or.inr ⟨by rfl, rfl⟩) (by assumption) ?_)
          | (refine wpAnyH_take (i := 6) (oi := ({ dst := some 49, op := Op.binOp BinOp.eql 26 (Operand.tmp 45) (Operand.tmp 48) 26, type := 4, pos := "law.go:86", after := #[{ on := 2, ground := Ground.data }, { on := 5, ground := Ground.data }], guard := none } : Oper)) (v := ?_) rfl (by kernel_rfl) (by kernel_rfl) (by kernel_rfl) (fun _ _ _ h => h) (Or.inl ⟨by rfl, ?_⟩) (by assumption) ?_; rotate_left 1; (· (intro w hSw; (try dsimp only at hSw); go_simp; try with_reducible rfl)))
        try simp only [Act.put, List.setIfInBounds_toArray, List.set_cons_zero, List.set_cons_succ]
        -- operation 7
        first
          | (refine wpAnyH_take (i := 7) (oi := ({ dst := some 50, op := Op.move (Operand.tmp 49), type := 4, pos := "law.go:86", after := #[{ on := 6, ground := Ground.data }, { on := 5, ground := Ground.chain }], guard := none } : Oper)) (v := undef) rfl (by kernel_rfl) (by kernel_rfl) (by kernel_rfl) (fun _ _ _ h => h) (Or.inr ⟨by rfl, rfl⟩) (by assumption) ?_)
          | (refine wpAnyH_take (i := 7) (oi := ({ dst := some 50, op := Op.move (Operand.tmp 49), type := 4, pos := "law.go:86", after := #[{ on := 6, ground := Ground.data }, { on := 5, ground := Ground.chain }], guard := none } : Oper)) (v := ?_) rfl (by kernel_rfl) (by kernel_rfl) (by kernel_rfl) (fun _ _ _ h => h) (Or.inl ⟨by rfl, ?_⟩) (by assumption) ?_; rotate_left 1; (· (intro w hSw; (try dsimp only at hSw); go_simp; try with_reducible rfl)))
        try simp only [Act.put, List.setIfInBounds_toArray, List.set_cons_zero, List.set_cons_succ]
        -- operation 8
        first
          | (refine wpAnyH_take (i := 8) (oi := ({ dst := some 51, op := Op.load 26 (Operand.tmp 2), type := 26, pos := "law.go:86", after := #[{ on := 7, ground := Ground.guard }], guard := some (7, true) } : Oper)) (v := undef) rfl (by kernel_rfl) (by kernel_rfl) (by kernel_rfl) (fun _ _ _ h => h) (Or.inr ⟨by rfl, rfl⟩) (by assumption) ?_)
          | (refine wpAnyH_take (i := 8) (oi := ({ dst := some 51, op := Op.load 26 (Operand.tmp 2), type := 26, pos := "law.go:86", after := #[{ on := 7, ground := Ground.guard }], guard := some (7, true) } : Oper)) (v := ?_) rfl (by kernel_rfl) (by kernel_rfl) (by kernel_rfl) (fun _ _ _ h => h) (Or.inl ⟨by rfl, ?_⟩) (by assumption) ?_; rotate_left 1; (· (intro w hSw; (try dsimp only at hSw); go_simp; try with_reducible rfl)))
        try simp only [Act.put, List.setIfInBounds_toArray, List.set_cons_zero, List.set_cons_succ]
        -- operation 9
        first
          | (refine wpAnyH_take (i := 9) (oi := ({ dst := some 52, op := Op.move (Operand.tmp 1), type := 22, pos := "law.go:86", after := #[{ on := 7, ground := Ground.guard }], guard := some (7, true) } : Oper)) (v := undef) rfl (by kernel_rfl) (by kernel_rfl) (by kernel_rfl) (fun _ _ _ h => h) (Or.inr ⟨by rfl, rfl⟩) (by assumption) ?_)
          | (refine wpAnyH_take (i := 9) (oi := ({ dst := some 52, op := Op.move (Operand.tmp 1), type := 22, pos := "law.go:86", after := #[{ on := 7, ground := Ground.guard }], guard := some (7, true) } : Oper)) (v := ?_) rfl (by kernel_rfl) (by kernel_rfl) (by kernel_rfl) (fun _ _ _ h => h) (Or.inl ⟨by rfl, ?_⟩) (by assumption) ?_; rotate_left 1; (· (intro w hSw; (try dsimp only at hSw); go_simp; try with_reducible rfl)))
        try simp only [Act.put, List.setIfInBounds_toArray, List.set_cons_zero, List.set_cons_succ]
        -- operation 11
        first
          | (refine wpAnyH_take (i := 11) (oi := ({ dst := some 54, op := Op.move (Operand.tmp 7), type := 22, pos := "law.go:86", after := #[{ on := 7, ground := Ground.guard }], guard := some (7, true) } : Oper)) (v := undef) rfl (by kernel_rfl) (by kernel_rfl) (by kernel_rfl) (fun _ _ _ h => h) (Or.inr ⟨by rfl, rfl⟩) (by assumption) ?_)
          | (refine wpAnyH_take (i := 11) (oi := ({ dst := some 54, op := Op.move (Operand.tmp 7), type := 22, pos := "law.go:86", after := #[{ on := 7, ground := Ground.guard }], guard := some (7, true) } : Oper)) (v := ?_) rfl (by kernel_rfl) (by kernel_rfl) (by kernel_rfl) (fun _ _ _ h => h) (Or.inl ⟨by rfl, ?_⟩) (by assumption) ?_; rotate_left 1; (· (intro w hSw; (try dsimp only at hSw); go_simp; try with_reducible rfl)))
        try simp only [Act.put, List.setIfInBounds_toArray, List.set_cons_zero, List.set_cons_succ]
        -- operation 10
        first
          | (refine wpAnyH_take (i := 10) (oi := ({ dst := some 53, op := Op.call { callee := Callee.value (Operand.func 17), args := #[Operand.tmp 51, Operand.tmp 52], argTypes := #[26, 22] }, type := 26, pos := "law.go:86", after := #[{ on := 8, ground := Ground.data }, { on := 9, ground := Ground.data }, { on := 7, ground := Ground.chain }, { on := 7, ground := Ground.guard }], guard := some (7, true) } : Oper)) (v := undef) rfl (by kernel_rfl) (by kernel_rfl) (by kernel_rfl) (fun _ _ _ h => h) (Or.inr ⟨by rfl, rfl⟩) (by assumption) ?_)
          | (refine wpAnyH_ready (rs := [10]) (by kernel_rfl) (by simp) ?_; refine AllReadyH.cons (o := ({ dst := some 53, op := Op.call { callee := Callee.value (Operand.func 17), args := #[Operand.tmp 51, Operand.tmp 52], argTypes := #[26, 22] }, type := 26, pos := "law.go:86", after := #[{ on := 8, ground := Ground.data }, { on := 9, ground := Ground.data }, { on := 7, ground := Ground.chain }, { on := 7, ground := Ground.guard }], guard := some (7, true) } : Oper)) rfl (fun K hK => ?_) AllReadyH.nil; go_simp; (first | (refine (vfail_any 6 _).mono ?_; rintro e w5 ⟨rfl, hb5⟩) | (refine (HC.out _ (hvm.below (And.left (by assumption)))).mono ?_; rintro e w5 ⟨rfl, hb5⟩) | (refine (HSI.out _ (hvm.below (And.left (by assumption)))).mono ?_; rintro e w5 ⟨rfl, hb5⟩) | (refine (HSU.out _ (hsm.below (And.left (by assumption)))).mono ?_; rintro e w5 ⟨rfl, hb5⟩) | (refine (vnum_any _ _).mono ?_; rintro e w5 ⟨rfl, hb5⟩)); (try go_wp2_with fail); refine hK.out _ _ ?_ (fun hHeld => ?_); (· ((try dsimp only); first | assumption | exact hbW | exact held2 lm lx (by assumption) (by assumption))); clear hK K)
        try simp only [Act.put, List.setIfInBounds_toArray, List.set_cons_zero, List.set_cons_succ]
        -- operation 12
        first
          | (refine wpAnyH_take (i := 12) (oi := ({ dst := some 55, op := Op.call { callee := Callee.value (Operand.func 12), args := #[Operand.tmp 54], argTypes := #[22] }, type := 26, pos := "law.go:86", after := #[{ on := 11, ground := Ground.data }, { on := 10, ground := Ground.chain }, { on := 7, ground := Ground.guard }], guard := some (7, true) } : Oper)) (v := undef) rfl (by kernel_rfl) (by kernel_rfl) (by kernel_rfl) (fun _ _ _ h => h) (Or.inr ⟨by rfl, rfl⟩) (by assumption) ?_)
          | (refine wpAnyH_ready (rs := [12]) (by kernel_rfl) (by simp) ?_; refine AllReadyH.cons (o := ({ dst := some 55, op := Op.call { callee := Callee.value (Operand.func 12), args := #[Operand.tmp 54], argTypes := #[22] }, type := 26, pos := "law.go:86", after := #[{ on := 11, ground := Ground.data }, { on := 10, ground := Ground.chain }, { on := 7, ground := Ground.guard }], guard := some (7, true) } : Oper)) rfl (fun K hK => ?_) AllReadyH.nil; go_simp; (first | (refine (vfail_any 6 _).mono ?_; rintro e w5 ⟨rfl, hb5⟩) | (refine (HC.out _ (hvm.below (And.left (by assumption)))).mono ?_; rintro e w5 ⟨rfl, hb5⟩) | (refine (HSI.out _ (hvm.below (And.left (by assumption)))).mono ?_; rintro e w5 ⟨rfl, hb5⟩) | (refine (HSU.out _ (hsm.below (And.left (by assumption)))).mono ?_; rintro e w5 ⟨rfl, hb5⟩) | (refine (vnum_any _ _).mono ?_; rintro e w5 ⟨rfl, hb5⟩)); (try go_wp2_with fail); refine hK.out _ _ ?_ (fun hHeld => ?_); (· ((try dsimp only); first | assumption | exact hbW | exact held2 lm lx (by assumption) (by assumption))); clear hK K)
        try simp only [Act.put, List.setIfInBounds_toArray, List.set_cons_zero, List.set_cons_succ]
        -- operation 13
        first
          | (refine wpAnyH_take (i := 13) (oi := ({ dst := some 56, op := Op.binOp BinOp.eql 26 (Operand.tmp 53) (Operand.tmp 55) 26, type := 4, pos := "law.go:86", after := #[{ on := 10, ground := Ground.data }, { on := 12, ground := Ground.data }, { on := 7, ground := Ground.guard }], guard := some (7, true) } : Oper)) (v := undef) rfl (by kernel_rfl) (by kernel_rfl) (by kernel_rfl) (fun _ _ _ h => h) (Or.inr ⟨by rfl, rfl⟩) (by assumption) ?_)
          | (refine wpAnyH_take (i := 13) (oi := ({ dst := some 56, op := Op.binOp BinOp.eql 26 (Operand.tmp 53) (Operand.tmp 55) 26, type := 4, pos := "law.go:86", after := #[{ on := 10, ground := Ground.data }, { on := 12, ground := Ground.data }, { on := 7, ground := Ground.guard }], guard := some (7, true) } : Oper)) (v := ?_) rfl (by kernel_rfl) (by kernel_rfl) (by kernel_rfl) (fun _ _ _ h => h) (Or.inl ⟨by rfl, ?_⟩) (by assumption) ?_; rotate_left 1; (· (intro w hSw; (try dsimp only at hSw); go_simp; try with_reducible rfl)))
        try simp only [Act.put, List.setIfInBounds_toArray, List.set_cons_zero, List.set_cons_succ]
        -- operation 14
        first
          | (refine wpAnyH_take (i := 14) (oi := ({ dst := some 57, op := Op.pick (Operand.tmp 50) (Operand.tmp 56) (Operand.const (Value.bool false)), type := 4, pos := "law.go:86", after := #[{ on := 7, ground := Ground.data }, { on := 13, ground := Ground.data }], guard := none } : Oper)) (v := undef) rfl (by kernel_rfl) (by kernel_rfl) (by kernel_rfl) (fun _ _ _ h => h) (Or.inr ⟨by rfl, rfl⟩) (by assumption) ?_)
          | (refine wpAnyH_take (i := 14) (oi := ({ dst := some 57, op := Op.pick (Operand.tmp 50) (Operand.tmp 56) (Operand.const (Value.bool false)), type := 4, pos := "law.go:86", after := #[{ on := 7, ground := Ground.data }, { on := 13, ground := Ground.data }], guard := none } : Oper)) (v := ?_) rfl (by kernel_rfl) (by kernel_rfl) (by kernel_rfl) (fun _ _ _ h => h) (Or.inl ⟨by rfl, ?_⟩) (by assumption) ?_; rotate_left 1; (· (intro w hSw; (try dsimp only at hSw); go_simp; try with_reducible rfl)))
        try simp only [Act.put, List.setIfInBounds_toArray, List.set_cons_zero, List.set_cons_succ]
        -- operation 15
        first
          | (refine wpAnyH_take (i := 15) (oi := ({ dst := some 58, op := Op.move (Operand.tmp 57), type := 4, pos := "law.go:86", after := #[{ on := 14, ground := Ground.data }, { on := 12, ground := Ground.chain }], guard := none } : Oper)) (v := undef) rfl (by kernel_rfl) (by kernel_rfl) (by kernel_rfl) (fun _ _ _ h => h) (Or.inr ⟨by rfl, rfl⟩) (by assumption) ?_)
          | (refine wpAnyH_take (i := 15) (oi := ({ dst := some 58, op := Op.move (Operand.tmp 57), type := 4, pos := "law.go:86", after := #[{ on := 14, ground := Ground.data }, { on := 12, ground := Ground.chain }], guard := none } : Oper)) (v := ?_) rfl (by kernel_rfl) (by kernel_rfl) (by kernel_rfl) (fun _ _ _ h => h) (Or.inl ⟨by rfl, ?_⟩) (by assumption) ?_; rotate_left 1; (· (intro w hSw; (try dsimp only at hSw); go_simp; try with_reducible rfl)))
        try simp only [Act.put, List.setIfInBounds_toArray, List.set_cons_zero, List.set_cons_succ]
        -- operation 16
        first
          | (refine wpAnyH_take (i := 16) (oi := ({ dst := some 59, op := Op.move (Operand.tmp 6), type := 2, pos := "law.go:86", after := #[{ on := 15, ground := Ground.guard }], guard := some (15, true) } : Oper)) (v := undef) rfl (by kernel_rfl) (by kernel_rfl) (by kernel_rfl) (fun _ _ _ h => h) (Or.inr ⟨by rfl, rfl⟩) (by assumption) ?_)
          | (refine wpAnyH_take (i := 16) (oi := ({ dst := some 59, op := Op.move (Operand.tmp 6), type := 2, pos := "law.go:86", after := #[{ on := 15, ground := Ground.guard }], guard := some (15, true) } : Oper)) (v := ?_) rfl (by kernel_rfl) (by kernel_rfl) (by kernel_rfl) (fun _ _ _ h => h) (Or.inl ⟨by rfl, ?_⟩) (by assumption) ?_; rotate_left 1; (· (intro w hSw; (try dsimp only at hSw); go_simp; try with_reducible rfl)))
        try simp only [Act.put, List.setIfInBounds_toArray, List.set_cons_zero, List.set_cons_succ]
        -- operation 17
        first
          | (refine wpAnyH_take (i := 17) (oi := ({ dst := some 60, op := Op.binOp BinOp.eql 2 (Operand.tmp 59) (Operand.const (Value.int IntKind.i64 0)) 2, type := 4, pos := "law.go:86", after := #[{ on := 16, ground := Ground.data }, { on := 15, ground := Ground.guard }], guard := some (15, true) } : Oper)) (v := undef) rfl (by kernel_rfl) (by kernel_rfl) (by kernel_rfl) (fun _ _ _ h => h) (Or.inr ⟨by rfl, rfl⟩) (by assumption) ?_)
          | (refine wpAnyH_take (i := 17) (oi := ({ dst := some 60, op := Op.binOp BinOp.eql 2 (Operand.tmp 59) (Operand.const (Value.int IntKind.i64 0)) 2, type := 4, pos := "law.go:86", after := #[{ on := 16, ground := Ground.data }, { on := 15, ground := Ground.guard }], guard := some (15, true) } : Oper)) (v := ?_) rfl (by kernel_rfl) (by kernel_rfl) (by kernel_rfl) (fun _ _ _ h => h) (Or.inl ⟨by rfl, ?_⟩) (by assumption) ?_; rotate_left 1; (· (intro w hSw; (try dsimp only at hSw); go_simp; try with_reducible rfl)))
        try simp only [Act.put, List.setIfInBounds_toArray, List.set_cons_zero, List.set_cons_succ]
        -- operation 18
        first
          | (refine wpAnyH_take (i := 18) (oi := ({ dst := some 61, op := Op.move (Operand.tmp 60), type := 4, pos := "law.go:86", after := #[{ on := 17, ground := Ground.data }, { on := 15, ground := Ground.chain }, { on := 15, ground := Ground.guard }], guard := some (15, true) } : Oper)) (v := undef) rfl (by kernel_rfl) (by kernel_rfl) (by kernel_rfl) (fun _ _ _ h => h) (Or.inr ⟨by rfl, rfl⟩) (by assumption) ?_)
          | (refine wpAnyH_take (i := 18) (oi := ({ dst := some 61, op := Op.move (Operand.tmp 60), type := 4, pos := "law.go:86", after := #[{ on := 17, ground := Ground.data }, { on := 15, ground := Ground.chain }, { on := 15, ground := Ground.guard }], guard := some (15, true) } : Oper)) (v := ?_) rfl (by kernel_rfl) (by kernel_rfl) (by kernel_rfl) (fun _ _ _ h => h) (Or.inl ⟨by rfl, ?_⟩) (by assumption) ?_; rotate_left 1; (· (intro w hSw; (try dsimp only at hSw); go_simp; try with_reducible rfl)))
        try simp only [Act.put, List.setIfInBounds_toArray, List.set_cons_zero, List.set_cons_succ]
        -- operation 19
        first
          | (refine wpAnyH_take (i := 19) (oi := ({ dst := some 62, op := Op.load 26 (Operand.tmp 10), type := 26, pos := "law.go:86", after := #[{ on := 18, ground := Ground.guard }], guard := some (18, true) } : Oper)) (v := undef) rfl (by kernel_rfl) (by kernel_rfl) (by kernel_rfl) (fun _ _ _ h => h) (Or.inr ⟨by rfl, rfl⟩) (by assumption) ?_)
          | (refine wpAnyH_take (i := 19) (oi := ({ dst := some 62, op := Op.load 26 (Operand.tmp 10), type := 26, pos := "law.go:86", after := #[{ on := 18, ground := Ground.guard }], guard := some (18, true) } : Oper)) (v := ?_) rfl (by kernel_rfl) (by kernel_rfl) (by kernel_rfl) (fun _ _ _ h => h) (Or.inl ⟨by rfl, ?_⟩) (by assumption) ?_; rotate_left 1; (· (intro w hSw; (try dsimp only at hSw); go_simp; try with_reducible rfl)))
        try simp only [Act.put, List.setIfInBounds_toArray, List.set_cons_zero, List.set_cons_succ]
        -- operation 20
        first
          | (refine wpAnyH_take (i := 20) (oi := ({ dst := some 63, op := Op.call { callee := Callee.value (Operand.func 18), args := #[Operand.const (Value.int IntKind.i64 6)], argTypes := #[3] }, type := 26, pos := "law.go:86", after := #[{ on := 18, ground := Ground.chain }, { on := 18, ground := Ground.guard }], guard := some (18, true) } : Oper)) (v := undef) rfl (by kernel_rfl) (by kernel_rfl) (by kernel_rfl) (fun _ _ _ h => h) (Or.inr ⟨by rfl, rfl⟩) (by assumption) ?_)
          | (refine wpAnyH_ready (rs := [20]) (by kernel_rfl) (by simp) ?_; refine AllReadyH.cons (o := ({ dst := some 63, op := Op.call { callee := Callee.value (Operand.func 18), args := #[Operand.const (Value.int IntKind.i64 6)], argTypes := #[3] }, type := 26, pos := "law.go:86", after := #[{ on := 18, ground := Ground.chain }, { on := 18, ground := Ground.guard }], guard := some (18, true) } : Oper)) rfl (fun K hK => ?_) AllReadyH.nil; go_simp; (first | (refine (vfail_any 6 _).mono ?_; rintro e w5 ⟨rfl, hb5⟩) | (refine (HC.out _ (hvm.below (And.left (by assumption)))).mono ?_; rintro e w5 ⟨rfl, hb5⟩) | (refine (HSI.out _ (hvm.below (And.left (by assumption)))).mono ?_; rintro e w5 ⟨rfl, hb5⟩) | (refine (HSU.out _ (hsm.below (And.left (by assumption)))).mono ?_; rintro e w5 ⟨rfl, hb5⟩) | (refine (vnum_any _ _).mono ?_; rintro e w5 ⟨rfl, hb5⟩)); (try go_wp2_with fail); refine hK.out _ _ ?_ (fun hHeld => ?_); (· ((try dsimp only); first | assumption | exact hbW | exact held2 lm lx (by assumption) (by assumption))); clear hK K)
        try simp only [Act.put, List.setIfInBounds_toArray, List.set_cons_zero, List.set_cons_succ]
        -- operation 21
        first
          | (refine wpAnyH_take (i := 21) (oi := ({ dst := some 64, op := Op.binOp BinOp.eql 26 (Operand.tmp 62) (Operand.tmp 63) 26, type := 4, pos := "law.go:86", after := #[{ on := 19, ground := Ground.data }, { on := 20, ground := Ground.data }, { on := 18, ground := Ground.guard }], guard := some (18, true) } : Oper)) (v := undef) rfl (by kernel_rfl) (by kernel_rfl) (by kernel_rfl) (fun _ _ _ h => h) (Or.inr ⟨by rfl, rfl⟩) (by assumption) ?_)
          | (refine wpAnyH_take (i := 21) (oi := ({ dst := some 64, op := Op.binOp BinOp.eql 26 (Operand.tmp 62) (Operand.tmp 63) 26, type := 4, pos := "law.go:86", after := #[{ on := 19, ground := Ground.data }, { on := 20, ground := Ground.data }, { on := 18, ground := Ground.guard }], guard := some (18, true) } : Oper)) (v := ?_) rfl (by kernel_rfl) (by kernel_rfl) (by kernel_rfl) (fun _ _ _ h => h) (Or.inl ⟨by rfl, ?_⟩) (by assumption) ?_; rotate_left 1; (· (intro w hSw; (try dsimp only at hSw); go_simp; try with_reducible rfl)))
        try simp only [Act.put, List.setIfInBounds_toArray, List.set_cons_zero, List.set_cons_succ]
        -- operation 22
        first
          | (refine wpAnyH_take (i := 22) (oi := ({ dst := some 65, op := Op.pick (Operand.tmp 61) (Operand.tmp 64) (Operand.const (Value.bool false)), type := 4, pos := "law.go:86", after := #[{ on := 18, ground := Ground.data }, { on := 21, ground := Ground.data }, { on := 15, ground := Ground.guard }], guard := some (15, true) } : Oper)) (v := undef) rfl (by kernel_rfl) (by kernel_rfl) (by kernel_rfl) (fun _ _ _ h => h) (Or.inr ⟨by rfl, rfl⟩) (by assumption) ?_)
          | (refine wpAnyH_take (i := 22) (oi := ({ dst := some 65, op := Op.pick (Operand.tmp 61) (Operand.tmp 64) (Operand.const (Value.bool false)), type := 4, pos := "law.go:86", after := #[{ on := 18, ground := Ground.data }, { on := 21, ground := Ground.data }, { on := 15, ground := Ground.guard }], guard := some (15, true) } : Oper)) (v := ?_) rfl (by kernel_rfl) (by kernel_rfl) (by kernel_rfl) (fun _ _ _ h => h) (Or.inl ⟨by rfl, ?_⟩) (by assumption) ?_; rotate_left 1; (· (intro w hSw; (try dsimp only at hSw); go_simp; try with_reducible rfl)))
        try simp only [Act.put, List.setIfInBounds_toArray, List.set_cons_zero, List.set_cons_succ]
        -- operation 23
        first
          | (refine wpAnyH_take (i := 23) (oi := ({ dst := some 66, op := Op.move (Operand.tmp 65), type := 4, pos := "law.go:86", after := #[{ on := 22, ground := Ground.data }, { on := 20, ground := Ground.chain }, { on := 15, ground := Ground.guard }], guard := some (15, true) } : Oper)) (v := undef) rfl (by kernel_rfl) (by kernel_rfl) (by kernel_rfl) (fun _ _ _ h => h) (Or.inr ⟨by rfl, rfl⟩) (by assumption) ?_)
          | (refine wpAnyH_take (i := 23) (oi := ({ dst := some 66, op := Op.move (Operand.tmp 65), type := 4, pos := "law.go:86", after := #[{ on := 22, ground := Ground.data }, { on := 20, ground := Ground.chain }, { on := 15, ground := Ground.guard }], guard := some (15, true) } : Oper)) (v := ?_) rfl (by kernel_rfl) (by kernel_rfl) (by kernel_rfl) (fun _ _ _ h => h) (Or.inl ⟨by rfl, ?_⟩) (by assumption) ?_; rotate_left 1; (· (intro w hSw; (try dsimp only at hSw); go_simp; try with_reducible rfl)))
        try simp only [Act.put, List.setIfInBounds_toArray, List.set_cons_zero, List.set_cons_succ]
        -- operation 24
        first
          | (refine wpAnyH_take (i := 24) (oi := ({ dst := some 67, op := Op.move (Operand.tmp 6), type := 2, pos := "law.go:86", after := #[{ on := 23, ground := Ground.guard }], guard := some (23, false) } : Oper)) (v := undef) rfl (by kernel_rfl) (by kernel_rfl) (by kernel_rfl) (fun _ _ _ h => h) (Or.inr ⟨by rfl, rfl⟩) (by assumption) ?_)
          | (refine wpAnyH_take (i := 24) (oi := ({ dst := some 67, op := Op.move (Operand.tmp 6), type := 2, pos := "law.go:86", after := #[{ on := 23, ground := Ground.guard }], guard := some (23, false) } : Oper)) (v := ?_) rfl (by kernel_rfl) (by kernel_rfl) (by kernel_rfl) (fun _ _ _ h => h) (Or.inl ⟨by rfl, ?_⟩) (by assumption) ?_; rotate_left 1; (· (intro w hSw; (try dsimp only at hSw); go_simp; try with_reducible rfl)))
        try simp only [Act.put, List.setIfInBounds_toArray, List.set_cons_zero, List.set_cons_succ]
        -- operation 25
        first
          | (refine wpAnyH_take (i := 25) (oi := ({ dst := some 68, op := Op.binOp BinOp.gtr 2 (Operand.tmp 67) (Operand.const (Value.int IntKind.i64 0)) 2, type := 4, pos := "law.go:86", after := #[{ on := 24, ground := Ground.data }, { on := 23, ground := Ground.guard }], guard := some (23, false) } : Oper)) (v := undef) rfl (by kernel_rfl) (by kernel_rfl) (by kernel_rfl) (fun _ _ _ h => h) (Or.inr ⟨by rfl, rfl⟩) (by assumption) ?_)
          | (refine wpAnyH_take (i := 25) (oi := ({ dst := some 68, op := Op.binOp BinOp.gtr 2 (Operand.tmp 67) (Operand.const (Value.int IntKind.i64 0)) 2, type := 4, pos := "law.go:86", after := #[{ on := 24, ground := Ground.data }, { on := 23, ground := Ground.guard }], guard := some (23, false) } : Oper)) (v := ?_) rfl (by kernel_rfl) (by kernel_rfl) (by kernel_rfl) (fun _ _ _ h => h) (Or.inl ⟨by rfl, ?_⟩) (by assumption) ?_; rotate_left 1; (· (intro w hSw; (try dsimp only at hSw); go_simp; try with_reducible rfl)))
        try simp only [Act.put, List.setIfInBounds_toArray, List.set_cons_zero, List.set_cons_succ]
        -- operation 26
        first
          | (refine wpAnyH_take (i := 26) (oi := ({ dst := some 69, op := Op.move (Operand.tmp 68), type := 4, pos := "law.go:86", after := #[{ on := 25, ground := Ground.data }, { on := 23, ground := Ground.chain }, { on := 23, ground := Ground.guard }], guard := some (23, false) } : Oper)) (v := undef) rfl (by kernel_rfl) (by kernel_rfl) (by kernel_rfl) (fun _ _ _ h => h) (Or.inr ⟨by rfl, rfl⟩) (by assumption) ?_)
          | (refine wpAnyH_take (i := 26) (oi := ({ dst := some 69, op := Op.move (Operand.tmp 68), type := 4, pos := "law.go:86", after := #[{ on := 25, ground := Ground.data }, { on := 23, ground := Ground.chain }, { on := 23, ground := Ground.guard }], guard := some (23, false) } : Oper)) (v := ?_) rfl (by kernel_rfl) (by kernel_rfl) (by kernel_rfl) (fun _ _ _ h => h) (Or.inl ⟨by rfl, ?_⟩) (by assumption) ?_; rotate_left 1; (· (intro w hSw; (try dsimp only at hSw); go_simp; try with_reducible rfl)))
        try simp only [Act.put, List.setIfInBounds_toArray, List.set_cons_zero, List.set_cons_succ]
        -- operation 27
        first
          | (refine wpAnyH_take (i := 27) (oi := ({ dst := some 70, op := Op.load 26 (Operand.tmp 10), type := 26, pos := "law.go:86", after := #[{ on := 26, ground := Ground.guard }], guard := some (26, true) } : Oper)) (v := undef) rfl (by kernel_rfl) (by kernel_rfl) (by kernel_rfl) (fun _ _ _ h => h) (Or.inr ⟨by rfl, rfl⟩) (by assumption) ?_)
          | (refine wpAnyH_take (i := 27) (oi := ({ dst := some 70, op := Op.load 26 (Operand.tmp 10), type := 26, pos := "law.go:86", after := #[{ on := 26, ground := Ground.guard }], guard := some (26, true) } : Oper)) (v := ?_) rfl (by kernel_rfl) (by kernel_rfl) (by kernel_rfl) (fun _ _ _ h => h) (Or.inl ⟨by rfl, ?_⟩) (by assumption) ?_; rotate_left 1; (· (intro w hSw; (try dsimp only at hSw); go_simp; try with_reducible rfl)))
        try simp only [Act.put, List.setIfInBounds_toArray, List.set_cons_zero, List.set_cons_succ]
        -- operation 28
        first
          | (refine wpAnyH_take (i := 28) (oi := ({ dst := some 71, op := Op.move (Operand.tmp 6), type := 2, pos := "law.go:86", after := #[{ on := 26, ground := Ground.guard }], guard := some (26, true) } : Oper)) (v := undef) rfl (by kernel_rfl) (by kernel_rfl) (by kernel_rfl) (fun _ _ _ h => h) (Or.inr ⟨by rfl, rfl⟩) (by assumption) ?_)
          | (refine wpAnyH_take (i := 28) (oi := ({ dst := some 71, op := Op.move (Operand.tmp 6), type := 2, pos := "law.go:86", after := #[{ on := 26, ground := Ground.guard }], guard := some (26, true) } : Oper)) (v := ?_) rfl (by kernel_rfl) (by kernel_rfl) (by kernel_rfl) (fun _ _ _ h => h) (Or.inl ⟨by rfl, ?_⟩) (by assumption) ?_; rotate_left 1; (· (intro w hSw; (try dsimp only at hSw); go_simp; try with_reducible rfl)))
        try simp only [Act.put, List.setIfInBounds_toArray, List.set_cons_zero, List.set_cons_succ]
        -- operation 29
        first
          | (refine wpAnyH_take (i := 29) (oi := ({ dst := some 72, op := Op.binOp BinOp.mul 2 (Operand.tmp 71) (Operand.const (Value.int IntKind.i64 1000000)) 2, type := 2, pos := "law.go:86", after := #[{ on := 28, ground := Ground.data }, { on := 26, ground := Ground.guard }], guard := some (26, true) } : Oper)) (v := undef) rfl (by kernel_rfl) (by kernel_rfl) (by kernel_rfl) (fun _ _ _ h => h) (Or.inr ⟨by rfl, rfl⟩) (by assumption) ?_)
          | (refine wpAnyH_take (i := 29) (oi := ({ dst := some 72, op := Op.binOp BinOp.mul 2 (Operand.tmp 71) (Operand.const (Value.int IntKind.i64 1000000)) 2, type := 2, pos := "law.go:86", after := #[{ on := 28, ground := Ground.data }, { on := 26, ground := Ground.guard }], guard := some (26, true) } : Oper)) (v := ?_) rfl (by kernel_rfl) (by kernel_rfl) (by kernel_rfl) (fun _ _ _ h => h) (Or.inl ⟨by rfl, ?_⟩) (by assumption) ?_; rotate_left 1; (· (intro w hSw; (try dsimp only at hSw); go_simp; try with_reducible rfl)))
        try simp only [Act.put, List.setIfInBounds_toArray, List.set_cons_zero, List.set_cons_succ]
        -- operation 30
        first
          | (refine wpAnyH_take (i := 30) (oi := ({ dst := some 73, op := Op.call { callee := Callee.value (Operand.func 16), args := #[Operand.tmp 72], argTypes := #[2] }, type := 26, pos := "law.go:86", after := #[{ on := 29, ground := Ground.data }, { on := 26, ground := Ground.chain }, { on := 26, ground := Ground.guard }], guard := some (26, true) } : Oper)) (v := undef) rfl (by kernel_rfl) (by kernel_rfl) (by kernel_rfl) (fun _ _ _ h => h) (Or.inr ⟨by rfl, rfl⟩) (by assumption) ?_)
          | (refine wpAnyH_ready (rs := [30]) (by kernel_rfl) (by simp) ?_; refine AllReadyH.cons (o := ({ dst := some 73, op := Op.call { callee := Callee.value (Operand.func 16), args := #[Operand.tmp 72], argTypes := #[2] }, type := 26, pos := "law.go:86", after := #[{ on := 29, ground := Ground.data }, { on := 26, ground := Ground.chain }, { on := 26, ground := Ground.guard }], guard := some (26, true) } : Oper)) rfl (fun K hK => ?_) AllReadyH.nil; go_simp; (first | (refine (vfail_any 6 _).mono ?_; rintro e w5 ⟨rfl, hb5⟩) | (refine (HC.out _ (hvm.below (And.left (by assumption)))).mono ?_; rintro e w5 ⟨rfl, hb5⟩) | (refine (HSI.out _ (hvm.below (And.left (by assumption)))).mono ?_; rintro e w5 ⟨rfl, hb5⟩) | (refine (HSU.out _ (hsm.below (And.left (by assumption)))).mono ?_; rintro e w5 ⟨rfl, hb5⟩) | (refine (vnum_any _ _).mono ?_; rintro e w5 ⟨rfl, hb5⟩)); (try go_wp2_with fail); refine hK.out _ _ ?_ (fun hHeld => ?_); (· ((try dsimp only); first | assumption | exact hbW | exact held2 lm lx (by assumption) (by assumption))); clear hK K)
        try simp only [Act.put, List.setIfInBounds_toArray, List.set_cons_zero, List.set_cons_succ]
        -- operation 31
        first
          | (refine wpAnyH_take (i := 31) (oi := ({ dst := some 74, op := Op.binOp BinOp.eql 26 (Operand.tmp 70) (Operand.tmp 73) 26, type := 4, pos := "law.go:86", after := #[{ on := 27, ground := Ground.data }, { on := 30, ground := Ground.data }, { on := 26, ground := Ground.guard }], guard := some (26, true) } : Oper)) (v := undef) rfl (by kernel_rfl) (by kernel_rfl) (by kernel_rfl) (fun _ _ _ h => h) (Or.inr ⟨by rfl, rfl⟩) (by assumption) ?_)
          | (refine wpAnyH_take (i := 31) (oi := ({ dst := some 74, op := Op.binOp BinOp.eql 26 (Operand.tmp 70) (Operand.tmp 73) 26, type := 4, pos := "law.go:86", after := #[{ on := 27, ground := Ground.data }, { on := 30, ground := Ground.data }, { on := 26, ground := Ground.guard }], guard := some (26, true) } : Oper)) (v := ?_) rfl (by kernel_rfl) (by kernel_rfl) (by kernel_rfl) (fun _ _ _ h => h) (Or.inl ⟨by rfl, ?_⟩) (by assumption) ?_; rotate_left 1; (· (intro w hSw; (try dsimp only at hSw); go_simp; try with_reducible rfl)))
        try simp only [Act.put, List.setIfInBounds_toArray, List.set_cons_zero, List.set_cons_succ]
        -- operation 32
        first
          | (refine wpAnyH_take (i := 32) (oi := ({ dst := some 75, op := Op.pick (Operand.tmp 69) (Operand.tmp 74) (Operand.const (Value.bool false)), type := 4, pos := "law.go:86", after := #[{ on := 26, ground := Ground.data }, { on := 31, ground := Ground.data }, { on := 23, ground := Ground.guard }], guard := some (23, false) } : Oper)) (v := undef) rfl (by kernel_rfl) (by kernel_rfl) (by kernel_rfl) (fun _ _ _ h => h) (Or.inr ⟨by rfl, rfl⟩) (by assumption) ?_)
          | (refine wpAnyH_take (i := 32) (oi := ({ dst := some 75, op := Op.pick (Operand.tmp 69) (Operand.tmp 74) (Operand.const (Value.bool false)), type := 4, pos := "law.go:86", after := #[{ on := 26, ground := Ground.data }, { on := 31, ground := Ground.data }, { on := 23, ground := Ground.guard }], guard := some (23, false) } : Oper)) (v := ?_) rfl (by kernel_rfl) (by kernel_rfl) (by kernel_rfl) (fun _ _ _ h => h) (Or.inl ⟨by rfl, ?_⟩) (by assumption) ?_; rotate_left 1; (· (intro w hSw; (try dsimp only at hSw); go_simp; try with_reducible rfl)))
        try simp only [Act.put, List.setIfInBounds_toArray, List.set_cons_zero, List.set_cons_succ]
        -- operation 33
        first
          | (refine wpAnyH_take (i := 33) (oi := ({ dst := some 76, op := Op.pick (Operand.tmp 66) (Operand.const (Value.bool true)) (Operand.tmp 75), type := 4, pos := "law.go:86", after := #[{ on := 23, ground := Ground.data }, { on := 32, ground := Ground.data }, { on := 15, ground := Ground.guard }], guard := some (15, true) } : Oper)) (v := undef) rfl (by kernel_rfl) (by kernel_rfl) (by kernel_rfl) (fun _ _ _ h => h) (Or.inr ⟨by rfl, rfl⟩) (by assumption) ?_)
          | (refine wpAnyH_take (i := 33) (oi := ({ dst := some 76, op := Op.pick (Operand.tmp 66) (Operand.const (Value.bool true)) (Operand.tmp 75), type := 4, pos := "law.go:86", after := #[{ on := 23, ground := Ground.data }, { on := 32, ground := Ground.data }, { on := 15, ground := Ground.guard }], guard := some (15, true) } : Oper)) (v := ?_) rfl (by kernel_rfl) (by kernel_rfl) (by kernel_rfl) (fun _ _ _ h => h) (Or.inl ⟨by rfl, ?_⟩) (by assumption) ?_; rotate_left 1; (· (intro w hSw; (try dsimp only at hSw); go_simp; try with_reducible rfl)))
        try simp only [Act.put, List.setIfInBounds_toArray, List.set_cons_zero, List.set_cons_succ]
        -- operation 34
        first
          | (refine wpAnyH_take (i := 34) (oi := ({ dst := some 77, op := Op.pick (Operand.tmp 58) (Operand.tmp 76) (Operand.const (Value.bool false)), type := 4, pos := "law.go:86", after := #[{ on := 15, ground := Ground.data }, { on := 33, ground := Ground.data }], guard := none } : Oper)) (v := undef) rfl (by kernel_rfl) (by kernel_rfl) (by kernel_rfl) (fun _ _ _ h => h) (Or.inr ⟨by rfl, rfl⟩) (by assumption) ?_)
          | (refine wpAnyH_take (i := 34) (oi := ({ dst := some 77, op := Op.pick (Operand.tmp 58) (Operand.tmp 76) (Operand.const (Value.bool false)), type := 4, pos := "law.go:86", after := #[{ on := 15, ground := Ground.data }, { on := 33, ground := Ground.data }], guard := none } : Oper)) (v := ?_) rfl (by kernel_rfl) (by kernel_rfl) (by kernel_rfl) (fun _ _ _ h => h) (Or.inl ⟨by rfl, ?_⟩) (by assumption) ?_; rotate_left 1; (· (intro w hSw; (try dsimp only at hSw); go_simp; try with_reducible rfl)))
        try simp only [Act.put, List.setIfInBounds_toArray, List.set_cons_zero, List.set_cons_succ]
        -- operation 35
        first
          | (refine wpAnyH_take (i := 35) (oi := ({ dst := some 4, op := Op.assign (Operand.tmp 77), type := 4, pos := "law.go:86", after := #[{ on := 34, ground := Ground.data }, { on := 30, ground := Ground.chain }, { on := 0, ground := Ground.phase }, { on := 1, ground := Ground.phase }, { on := 2, ground := Ground.phase }, { on := 3, ground := Ground.phase }, { on := 4, ground := Ground.phase }, { on := 5, ground := Ground.phase }, { on := 6, ground := Ground.phase }, { on := 7, ground := Ground.phase }, { on := 8, ground := Ground.phase }, { on := 9, ground := Ground.phase }, { on := 10, ground := Ground.phase }, { on := 11, ground := Ground.phase }, { on := 12, ground := Ground.phase }, { on := 13, ground := Ground.phase }, { on := 14, ground := Ground.phase }, { on := 15, ground := Ground.phase }, { on := 16, ground := Ground.phase }, { on := 17, ground := Ground.phase }, { on := 18, ground := Ground.phase }, { on := 19, ground := Ground.phase }, { on := 20, ground := Ground.phase }, { on := 21, ground := Ground.phase }, { on := 22, ground := Ground.phase }, { on := 23, ground := Ground.phase }, { on := 24, ground := Ground.phase }, { on := 25, ground := Ground.phase }, { on := 26, ground := Ground.phase }, { on := 27, ground := Ground.phase }, { on := 28, ground := Ground.phase }, { on := 29, ground := Ground.phase }, { on := 30, ground := Ground.phase }, { on := 31, ground := Ground.phase }, { on := 32, ground := Ground.phase }, { on := 33, ground := Ground.phase }, { on := 34, ground := Ground.phase }], guard := none } : Oper)) (v := undef) rfl (by kernel_rfl) (by kernel_rfl) (by kernel_rfl) (fun _ _ _ h => h) (Or.inr ⟨by rfl, rfl⟩) (by assumption) ?_)
          | (refine wpAnyH_take (i := 35) (oi := ({ dst := some 4, op := Op.assign (Operand.tmp 77), type := 4, pos := "law.go:86", after := #[{ on := 34, ground := Ground.data }, { on := 30, ground := Ground.chain }, { on := 0, ground := Ground.phase }, { on := 1, ground := Ground.phase }, { on := 2, ground := Ground.phase }, { on := 3, ground := Ground.phase }, { on := 4, ground := Ground.phase }, { on := 5, ground := Ground.phase }, { on := 6, ground := Ground.phase }, { on := 7, ground := Ground.phase }, { on := 8, ground := Ground.phase }, { on := 9, ground := Ground.phase }, { on := 10, ground := Ground.phase }, { on := 11, ground := Ground.phase }, { on := 12, ground := Ground.phase }, { on := 13, ground := Ground.phase }, { on := 14, ground := Ground.phase }, { on := 15, ground := Ground.phase }, { on := 16, ground := Ground.phase }, { on := 17, ground := Ground.phase }, { on := 18, ground := Ground.phase }, { on := 19, ground := Ground.phase }, { on := 20, ground := Ground.phase }, { on := 21, ground := Ground.phase }, { on := 22, ground := Ground.phase }, { on := 23, ground := Ground.phase }, { on := 24, ground := Ground.phase }, { on := 25, ground := Ground.phase }, { on := 26, ground := Ground.phase }, { on := 27, ground := Ground.phase }, { on := 28, ground := Ground.phase }, { on := 29, ground := Ground.phase }, { on := 30, ground := Ground.phase }, { on := 31, ground := Ground.phase }, { on := 32, ground := Ground.phase }, { on := 33, ground := Ground.phase }, { on := 34, ground := Ground.phase }], guard := none } : Oper)) (v := ?_) rfl (by kernel_rfl) (by kernel_rfl) (by kernel_rfl) (fun _ _ _ h => h) (Or.inl ⟨by rfl, ?_⟩) (by assumption) ?_; rotate_left 1; (· (intro w hSw; (try dsimp only at hSw); go_simp; try with_reducible rfl)))
        try simp only [Act.put, List.setIfInBounds_toArray, List.set_cons_zero, List.set_cons_succ]
        refine wpAnyH_done (by kernel_rfl) ?_ _
        go_split_ands
        go_wp2
        go_ret
        exact ⟨rfl, hbm.th (by assumption)⟩
end Go.Proofs.Ytpnnjmckjipacaa.listsIfs
