/-
  lists: SumProduct: a walk. Conditions: the theorem's own.
-/
import Derived.Test.YtpnnjmckjipacaaLPlain
import Derived.Test.YtpnnjmckjipacaaRegion
import Derived.Outline
import Derived.Deep.RegionHeld
namespace Go.Proofs.Ytpnnjmckjipacaa
open Go.RowKit Num
set_option linter.unusedVariables false
set_option linter.unusedSimpArgs false

/-- Block g holds x, and may be written. -/
def VB (W : World) (g : Nat) (x : Vl) : Prop := XB W g x ∧ W.frozen? ⟨g, 0, none⟩ = false ∧ W.frozen? ⟨g, 1, none⟩ = false ∧ W.frozen? ⟨g, 2, none⟩ = false
theorem VB.step {W W' : World} {g : Nat} {x : Vl} (h : VB W g x) (hb : Ext W W') : VB W' g x := by
  obtain ⟨h0, h4, h5, h6⟩ := h
  obtain ⟨hc, hf⟩ := bcell hb
  exact ⟨h0.step hb, by rw [hf _ _ h0.1, h4], by rw [hf _ _ h0.1, h5], by rw [hf _ _ h0.1, h6]⟩
theorem VB.new (w : World) (x : Vl) : VB (w.alloc (.cells #[.int .i64 x.k, .int .i64 x.n, .string x.s] 26)) w.heap.size x := by
  unfold VB XB; simp

theorem VB.put {W : World} {g : Nat} {x : Vl} (h : VB W g x) (y : Vl) : ∃ W', (((W.setCell ⟨g, 0, none⟩ (.int .i64 y.k)).setCell ⟨g, 1, none⟩ (.int .i64 y.n)).setCell ⟨g, 2, none⟩ (.string y.s)) = W' ∧ VB W' g y ∧ (∀ B, B ≤ g → Below B W W') ∧ (∀ b o, b ≠ g → W'.cell? ⟨b, o, none⟩ = W.cell? ⟨b, o, none⟩) := by
  obtain ⟨⟨h0, h1, h2, h3⟩, h4, h5, h6⟩ := h
  have n01 : (⟨g, 0, none⟩ : Addr) ≠ ⟨g, 1, none⟩ := fun e => by injection e with _ e; cases e
  have n02 : (⟨g, 0, none⟩ : Addr) ≠ ⟨g, 2, none⟩ := fun e => by injection e with _ e; cases e
  have n12 : (⟨g, 1, none⟩ : Addr) ≠ ⟨g, 2, none⟩ := fun e => by injection e with _ e; cases e
  refine ⟨_, rfl, ⟨⟨by simpa using h0, ?_, ?_, ?_⟩, ?_, ?_, ?_⟩, fun B hB => ?_, fun b o hb => ?_⟩
  · rw [World.cell?_setCell_other _ _ _ _ n02.symm, World.cell?_setCell_other _ _ _ _ n01.symm]
    exact World.cell?_setCell_same _ _ _ h1
  · rw [World.cell?_setCell_other _ _ _ _ n12.symm]
    exact World.cell?_setCell_same _ _ _ ((World.cell?_setCell_other _ _ _ _ n01).trans h2)
  · exact World.cell?_setCell_same _ _ _ ((World.cell?_setCell_other _ _ _ _ n12).trans ((World.cell?_setCell_other _ _ _ _ n02).trans h3))
  · simp [h4]
  · simp [h5]
  · simp [h6]
  · exact (((Below.refl _ _).setCell (p := ⟨g, 0, none⟩) hB _).setCell (p := ⟨g, 1, none⟩) hB _).setCell (p := ⟨g, 2, none⟩) hB _
  · rw [World.cell?_setCell_far _ _ _ _ (Ne.symm hb), World.cell?_setCell_far _ _ _ _ (Ne.symm hb), World.cell?_setCell_far _ _ _ _ (Ne.symm hb)]
/-- A variable that a region makes. -/
def BoxOf (b : Nat) (x : Vl) (v : Value) (w : World) : Prop := ∃ g, v = .pointer (some ⟨g, 0, none⟩) ∧ b ≤ g ∧ VB w g x
theorem BoxOf.lasts (b : Nat) (x : Vl) : Lasts (BoxOf b x) := fun v w w' ⟨g, hv, hb, h⟩ hE => ⟨g, hv, hb, h.step hE⟩
/-- A literal list of values. -/
def SliceOf (L : List Vl) (v : Value) (w : World) : Prop := ∃ g, v = .slice (some ⟨g, 0, none⟩) L.length L.length ∧ VIn w (some ⟨g, 0, none⟩) L.length L
theorem SliceOf.lasts (L : List Vl) : Lasts (SliceOf L) := fun v w w' ⟨g, hv, h⟩ hE => ⟨g, hv, h.below hE⟩
theorem SliceOf.new (w : World) (L : List Vl) : SliceOf L (.slice (some ⟨w.heap.size, 0, none⟩) L.length L.length) (w.alloc (.cells (vcells L).toArray 26)) := ⟨_, rfl, vin_new w L⟩

/-- The sum of the products of the first pairs of numbers, or none. -/
def pairO (o : Option Int) (x y : Vl) : Option Int := if x.k = 1 ∧ y.k = 1 then o.bind fun s => (mulO (some x.n) y.n).bind fun q => addO (some s) q else o
def spT (A B : List Vl) : Nat → Option Int
  | 0 => some 0
  | i + 1 => pairO (spT A B i) (A.getD i v0) (B.getD i v0)

theorem spT_none {A B : List Vl} {i : Nat} (h : spT A B i = none) : ∀ d, spT A B (i + d) = none := fun d => by
  induction d with
  | zero => exact h
  | succ d ih => rw [← Nat.add_assoc, spT, ih]; unfold pairO; split <;> rfl
def PairEnd (x y : Vl) (s kp np ks ns : Int) : Prop :=
  (kp = 4 ∧ np = 5 ∧ pairO (some s) x y = none) ∨ (kp = 1 ∧ ks = 4 ∧ ns = 5 ∧ pairO (some s) x y = none) ∨ (kp = 1 ∧ ks = 1 ∧ pairO (some s) x y = some ns ∧ Mant ns)
theorem pair_facts (x y : Vl) (s : Int) (hx : x.k = 1) (hy : y.k = 1) (hs : Mant s) (mx : Mant x.n) (my : Mant y.n) : ∃ kp np ks ns : Int,
    (∀ v w, SliceOf [x, y] v w → Calls Try.prog 25 #[v] w (RetV kp np { data := #[] } w)) ∧
    (∀ v w, SliceOf [⟨1, s, { data := #[] }⟩, ⟨kp, np, { data := #[] }⟩] v w → Calls Try.prog 12 #[v] w (RetV ks ns { data := #[] } w)) ∧ PairEnd x y s kp np ks ns := by
  have n1 : nums [x, y] = [x.n, y.n] := by simp [nums, hx, hy]
  have p1 : prodO (nums [x, y]) = mulO (some x.n) y.n := by rw [n1]; rfl
  have hP : ∀ v w, SliceOf [x, y] v w → Calls Try.prog 25 #[v] w (RetV (oK (prodO (nums [x, y]))) (oN (prodO (nums [x, y]))) { data := #[] } w) := by
    rintro v w ⟨g, rfl, h⟩
    exact product_any _ 2 2 _ w h (by omega) (by rw [n1]; intro z hz; simp at hz; rcases hz with rfl | rfl; exact mx; exact my)
  rw [p1] at hP
  have hmul : ∀ q, mulO (some x.n) y.n = some q → Mant q := by
    intro q hq
    unfold mulO at hq
    simp only [Option.bind_some] at hq
    split at hq
    · cases hq; exact mulV_bd _ _ _
    · cases hq
  have hpe : pairO (some s) x y = (mulO (some x.n) y.n).bind fun q => addO (some s) q := by unfold pairO; rw [if_pos ⟨hx, hy⟩]; rfl
  have hadd : addO (some 0) s = some s := by unfold addO fitI; unfold Mant at hs; simp; omega
  cases hm : mulO (some x.n) y.n with
  | none =>
    rw [hm] at hP hpe
    refine ⟨4, 5, 1, s, hP, ?_, .inl ⟨rfl, rfl, hpe⟩⟩
    rintro v w ⟨g, rfl, h⟩
    have n2 : nums [⟨1, s, { data := #[] }⟩, ⟨4, 5, { data := #[] }⟩] = [s] := rfl
    have := sum_any _ 2 2 _ w h (by omega) (by rw [n2]; intro z hz; simp at hz; subst hz; exact hs)
    rw [n2, show sumO [s] = some s from hadd] at this
    exact this
  | some q =>
    rw [hm] at hP hpe
    have hq := hmul q hm
    have n2 : nums [⟨1, s, { data := #[] }⟩, ⟨1, q, { data := #[] }⟩] = [s, q] := rfl
    have e2 : sumO [s, q] = addO (some s) q := by show addO (addO (some 0) s) q = _; rw [hadd]
    have hS : ∀ v w, SliceOf [⟨1, s, { data := #[] }⟩, ⟨1, q, { data := #[] }⟩] v w → Calls Try.prog 12 #[v] w (RetV (oK (addO (some s) q)) (oN (addO (some s) q)) { data := #[] } w) := by
      rintro v w ⟨g, rfl, h⟩
      have := sum_any _ 2 2 _ w h (by omega) (by rw [n2]; intro z hz; simp at hz; rcases hz with rfl | rfl; exact hs; exact hq)
      rw [n2, e2] at this
      exact this
    cases ha : addO (some s) q with
    | none =>
      rw [ha] at hS
      exact ⟨1, q, 4, 5, hP, hS, .inr (.inl ⟨rfl, rfl, rfl, by rw [hpe]; exact ha⟩)⟩
    | some t =>
      rw [ha] at hS
      refine ⟨1, q, 1, t, hP, hS, .inr (.inr ⟨rfl, rfl, by rw [hpe]; exact ha, ?_⟩)⟩
      unfold addO fitI at ha
      simp only [Option.bind_some] at ha
      split at ha
      · rename_i hf
        cases ha
        simpa [Mant] using hf
      · cases ha

set_option maxHeartbeats 1000000 in
theorem sumproduct_any (a1 : Option Addr) (len cap1 : Nat) (A : List Vl) (a2 : Option Addr) (cap2 : Nat) (B : List Vl) (w : World) (h1 : VIn w a1 len A) (h2 : VIn w a2 len B) (hl : len ≤ 1000000) (hm1 : Mants (nums A)) (hm2 : Mants (nums B)) :
    Calls Try.prog 21 #[.slice a1 len cap1, .slice a2 len cap2] w (RetV (oK (spT A B len)) (oN (spT A B len)) { data := #[] } w) := by
  obtain ⟨W, hW, hbW, hRB⟩ := start1 w
  have HW := Lib.hid hW
  clear hW
  go_enter Try.func21, Try.ntmps21
  go_wp2_with fail
  rw [HW.out]
  refine (vnum_any 0 _).mono ?_
  rintro e w1 ⟨rfl, hb1⟩
  go_wp2_with fail
  have hbw1 := hbW.th hb1
  have hv0 := VB.new w1 ⟨1, 0, { data := #[] }⟩
  have hg5 : W.heap.size ≤ w1.heap.size := hb1.size
  have hgw : w.heap.size ≤ W.heap.size := hbW.size
  have hlA := h1.1
  have hlB := h2.1
  have hi1 := h1.below hbW
  have hi2 := h2.below hbW
  have HM1 := Lib.hid hm1
  have HM2 := Lib.hid hm2
  have HWB := Lib.hid hbW
  clear hm1 hm2 hbW h1 h2
  go_loopw [17] (fun si wr => ∃ (i : Nat) (s : Int), i ≤ len ∧ si = .int .i64 (i : Int) ∧ spT A B i = some s ∧ Mant s ∧ VB wr w1.heap.size ⟨1, s, { data := #[] }⟩ ∧ Below W.heap.size W wr) (fun si _ => len - (intOf si).toNat)
  case atStart => exact ⟨0, 0, by omega, rfl, rfl, by unfold Mant; omega, hv0, hb1.al _⟩
  case round =>
    obtain ⟨i, s, hi, rfl, hs, hms, hvb, hbr⟩ := hrel
    have HS := Lib.hid hs
    have HVB := Lib.hid hvb
    have hrb := hRB.step hbr
    clear hs hvb hv0
    obtain ⟨⟨b0, b1, b2, b3⟩, b4, b5, b6⟩ := HVB.out
    simp only at b1 b2 b3
    by_cases hlt : i < len
    · obtain ⟨ba, oa, rfl, hWa, hca⟩ := hi1.2 (by omega)
      obtain ⟨bb, ob, rfl, hWb, hcb⟩ := hi2.2 (by omega)
      obtain ⟨x0, x1, x2⟩ := hca i (by omega)
      obtain ⟨y0, y1, y2⟩ := hcb i (by omega)
      have hBa := Nat.lt_of_lt_of_le hWa hbr.size
      have hBb := Nat.lt_of_lt_of_le hWb hbr.size
      rw [← hbr.cell (p := ⟨ba, _, none⟩) hWa] at x0 x1 x2
      rw [← hbr.cell (p := ⟨bb, _, none⟩) hWb] at y0 y1 y2
      obtain ⟨x, hx⟩ : ∃ v, A.getD i v0 = v := ⟨_, rfl⟩
      obtain ⟨y, hy⟩ : ∃ v, B.getD i v0 = v := ⟨_, rfl⟩
      rw [hx] at x0 x1 x2
      rw [hy] at y0 y1 y2
      have hst : Hid (spT A B (i + 1) = pairO (some s) x y) := by show _ = _; rw [spT, HS.out, hx, hy]
      have HX : Hid (x ∈ A) := by
        show _ ∈ _
        rw [← hx, List.getD_eq_getElem?_getD, List.getElem?_eq_getElem (by omega)]
        exact List.getElem_mem _
      have HY : Hid (y ∈ B) := by
        show _ ∈ _
        rw [← hy, List.getD_eq_getElem?_getD, List.getElem?_eq_getElem (by omega)]
        exact List.getElem_mem _
      clear hca hcb hx hy
      by_cases hk : x.k = 1 ∧ y.k = 1
      · have tk1 : (x.k == 1) = true := by simp [hk.1]
        have tk2 : (y.k == 1) = true := by simp [hk.2]
        have tk3 : (x.k != 1) = false := by simp [hk.1]
        have tk4 : (y.k != 1) = false := by simp [hk.2]
        have mx : Mant x.n := HM1.out x.n (by unfold nums; rw [List.mem_map]; exact ⟨x, by rw [List.mem_filter]; exact ⟨HX.out, by simp [hk.1]⟩, rfl⟩)
        have my : Mant y.n := HM2.out y.n (by unfold nums; rw [List.mem_map]; exact ⟨y, by rw [List.mem_filter]; exact ⟨HY.out, by simp [hk.2]⟩, rfl⟩)
        obtain ⟨kp, np, ks, ns, hP, hS, hEnd⟩ := pair_facts x y s hk.1 hk.2 hms mx my
        have HP := Lib.hid hP
        have HS2 := Lib.hid hS
        have HEnd := Lib.hid hEnd
        clear hk hP hS hEnd
        have c0 := ext_cell b0 b1
        have c1 := ext_cell b0 b2
        have c2 := ext_cell b0 b3
        have c3 := ext_frozen b0 b4
        have c4 := ext_frozen b0 b5
        have c5 := ext_frozen b0 b6
        have cx0 := ext_cell hBa x0
        have cx1 := ext_cell hBa x1
        have cx2 := ext_cell hBa x2
        have cy0 := ext_cell hBb y0
        have cy1 := ext_cell hBb y1
        have cy2 := ext_cell hBb y2
        go_wp2_with fail
        refine region_any (by kernel_rfl) (by kernel_rfl) rfl (fun K hK => ?_)
        repeat (refine seqr_pure (v := ?_) (by rfl) (fun ρ => by rfl) (fun ρ w hE hF => ?_) ?_; rotate_left 1; (· ((try simp only [fill, Act.put, List.setIfInBounds_toArray, List.set_cons_zero, List.set_cons_succ]); go_simp; try with_reducible rfl)); (try simp only [Act.put, List.setIfInBounds_toArray, List.set_cons_zero, List.set_cons_succ]))
        refine seqr_rel (SliceOf [x, y]) (SliceOf.lasts _) rfl (by rfl) (fun ρ => by rfl) (fun ρ w hE hF => ?_) ?_
        · refine outcome_value ?_ (below_alloc w _) (SliceOf.new w [x, y])
          try simp only [fill, Act.put, List.setIfInBounds_toArray, List.set_cons_zero, List.set_cons_succ]
          go_simp
          rfl
        try simp only [Act.put, List.setIfInBounds_toArray, List.set_cons_zero, List.set_cons_succ]
        refine seqr_call (v := .agg #[.int .i64 kp, .int .i64 np, .string { data := #[] }]) (args := fun ρ => #[ρ 43]) (by rfl) (fun ρ => by rfl) (fun ρ w => ?_) (fun ρ w hE hF => HP.out _ _ (hF.get (.head _) (by rfl))) ?_
        · simp only [fill, Act.put, List.setIfInBounds_toArray, List.set_cons_zero, List.set_cons_succ]
          go_simp
        try simp only [Act.put, List.setIfInBounds_toArray, List.set_cons_zero, List.set_cons_succ]
        refine seqr_rel (SliceOf [⟨1, s, { data := #[] }⟩, ⟨kp, np, { data := #[] }⟩]) (SliceOf.lasts _) rfl (by rfl) (fun ρ => by rfl) (fun ρ w hE hF => ?_) ?_
        · refine outcome_value ?_ (below_alloc w _) (SliceOf.new w [⟨1, s, { data := #[] }⟩, ⟨kp, np, { data := #[] }⟩])
          try simp only [fill, Act.put, List.setIfInBounds_toArray, List.set_cons_zero, List.set_cons_succ]
          go_simp
          rfl
        refine seqr_call (v := .agg #[.int .i64 ks, .int .i64 ns, .string { data := #[] }]) (args := fun ρ => #[ρ 45]) (by rfl) (fun ρ => by rfl) (fun ρ w => ?_) (fun ρ w hE hF => HS2.out _ _ (hF.get (.head _) (by rfl))) ?_
        · simp only [fill, Act.put, List.setIfInBounds_toArray, List.set_cons_zero, List.set_cons_succ]
          go_simp
        try simp only [Act.put, List.setIfInBounds_toArray, List.set_cons_zero, List.set_cons_succ]
        refine seqr_tail (by kernel_rfl) (fun ρ => by rfl) (fun ρ w8 hE hF K8 hK8 => ?_)
        try simp only [fill, Act.put, List.setIfInBounds_toArray, List.set_cons_zero, List.set_cons_succ]
        go_simp
        refine hK8.out _ _ (show K _ _ from hK.out _ _ ?_)
        clear hK8 K8 hK K
        obtain ⟨W8, hW8, hvb8, hbl8, hfar8⟩ := (HVB.out.step hE).put ⟨ks, ns, { data := #[] }⟩
        simp only at hW8
        rw [hW8]
        have hbr8 : Below W.heap.size W W8 := (hbr.trans (Below.mono hE hbr.size)).trans (hbl8 _ hg5)
        have nea : ba ≠ w1.heap.size := fun e => by subst e; omega
        have neb : bb ≠ w1.heap.size := fun e => by subst e; omega
        have lta : ba < W8.heap.size := Nat.lt_of_lt_of_le hBa (Nat.le_trans hE.size (hbl8 0 (Nat.zero_le _)).size)
        have ltb : bb < W8.heap.size := Nat.lt_of_lt_of_le hBb (Nat.le_trans hE.size (hbl8 0 (Nat.zero_le _)).size)
        have dx0 := ext_cell lta ((hfar8 _ _ nea).trans (cx0 _ hE))
        have dx1 := ext_cell lta ((hfar8 _ _ nea).trans (cx1 _ hE))
        have dx2 := ext_cell lta ((hfar8 _ _ nea).trans (cx2 _ hE))
        have dy0 := ext_cell ltb ((hfar8 _ _ neb).trans (cy0 _ hE))
        have dy1 := ext_cell ltb ((hfar8 _ _ neb).trans (cy1 _ hE))
        have dy2 := ext_cell ltb ((hfar8 _ _ neb).trans (cy2 _ hE))
        have HV8 := Lib.hid hvb8
        have HB8 := Lib.hid hbr8
        clear hW8 hvb8 hbl8 hfar8 hbr8 c0 c1 c2 c3 c4 c5 cx0 cx1 cx2 cy0 cy1 cy2 x0 x1 x2 y0 y1 y2 b1 b2 b3 b4 b5 b6
        go_wp2_with fail
        refine region_any (by kernel_rfl) (by kernel_rfl) rfl (fun K hK => ?_)
        repeat (refine seqr_pure (v := ?_) (by rfl) (fun ρ => by rfl) (fun ρ w hE hF => ?_) ?_; rotate_left 1; (· ((try simp only [fill, Act.put, List.setIfInBounds_toArray, List.set_cons_zero, List.set_cons_succ]); go_simp; try with_reducible rfl)); (try simp only [Act.put, List.setIfInBounds_toArray, List.set_cons_zero, List.set_cons_succ]))
        refine seqr_rel (SliceOf [x, y]) (SliceOf.lasts _) rfl (by rfl) (fun ρ => by rfl) (fun ρ w hE hF => ?_) ?_
        · refine outcome_value ?_ (below_alloc w _) (SliceOf.new w [x, y])
          try simp only [fill, Act.put, List.setIfInBounds_toArray, List.set_cons_zero, List.set_cons_succ]
          go_simp
          rfl
        try simp only [Act.put, List.setIfInBounds_toArray, List.set_cons_zero, List.set_cons_succ]
        refine seqr_call (v := .agg #[.int .i64 kp, .int .i64 np, .string { data := #[] }]) (args := fun ρ => #[ρ 55]) (by rfl) (fun ρ => by rfl) (fun ρ w => ?_) (fun ρ w hE hF => HP.out _ _ (hF.get (.head _) (by rfl))) ?_
        · simp only [fill, Act.put, List.setIfInBounds_toArray, List.set_cons_zero, List.set_cons_succ]
          go_simp
        try simp only [Act.put, List.setIfInBounds_toArray, List.set_cons_zero, List.set_cons_succ]
        refine seqr_rel (BoxOf W8.heap.size v0) (BoxOf.lasts _ _) rfl (by rfl) (fun ρ => by rfl) (fun ρ w hE hF => ?_) ?_
        · refine outcome_value ?_ (below_alloc w _) ⟨_, rfl, hE.size, VB.new w v0⟩
          try simp only [fill, Act.put, List.setIfInBounds_toArray, List.set_cons_zero, List.set_cons_succ]
          go_simp
          rfl
        refine seqr_tail (by kernel_rfl) (fun ρ => by rfl) (fun ρ w9 hE9 hF K9 hK9 => ?_)
        obtain ⟨g7, hg7, hgl7, hv7⟩ := hF _ (.head _)
        simp only at hg7
        have HV7 := Lib.hid hv7
        obtain ⟨⟨d0, d1, d2, d3⟩, d4, d5, d6⟩ := hv7
        try simp only [fill, Act.put, List.setIfInBounds_toArray, List.set_cons_zero, List.set_cons_succ]
        go_simp
        refine hK9.out _ _ (show K _ _ from hK.out _ _ ?_)
        clear hK9 K9 hK K
        obtain ⟨W9, hW9, hvb9, hbl9, -⟩ := HV7.out.put ⟨kp, np, { data := #[] }⟩
        simp only at hW9
        rw [hW9]
        have hE89 : Ext W8 W9 := Below.trans hE9 (hbl9 _ hgl7)
        have hvs := HV8.out.step hE89
        have hb9 := HB8.out.th hE89
        have hrb9 := hRB.step hb9
        have HVS := Lib.hid hvs
        have hg7w : W.heap.size ≤ g7 := Nat.le_trans HB8.out.size hgl7
        obtain ⟨⟨p0, p1, p2, p3⟩, p4, p5, p6⟩ := hvb9
        obtain ⟨⟨q0, q1, q2, q3⟩, q4, q5, q6⟩ := hvs
        obtain ⟨r0, r1, r2, r3, r4, r5, r6⟩ := hrb9
        simp only at p1 p2 p3 q1 q2 q3
        have hEnd := HEnd.out
        clear hW9 hbl9 d0 d1 d2 d3 d4 d5 d6 HV7 HB8 HV8 dx0 dx1 dx2 dy0 dy1 dy2 hE9 hF hg7
        rcases hEnd with ⟨rfl, rfl, hn⟩ | ⟨rfl, rfl, rfl, hn⟩ | ⟨rfl, rfl, hn, hmn⟩
        · have hsn : Hid (spT A B len = none) := by
            show _ = _
            obtain ⟨d, rfl⟩ : ∃ d, len = i + 1 + d := ⟨len - (i + 1), by omega⟩
            exact spT_none (hst.out.trans hn) d
          clear hn
          go_wp2_with fail
          refine bodyPost_ret (v := .agg #[.int .i64 4, .int .i64 5, .string { data := #[] }]) (by simp [results, Try.results21, go_sem, *]) rfl ⟨by rw [hsn.out]; rfl, ?_⟩
          exact below_fillg (Nat.le_refl _) (HWB.out.th hb9) _ _ _
        · have hsn : Hid (spT A B len = none) := by
            show _ = _
            obtain ⟨d, rfl⟩ : ∃ d, len = i + 1 + d := ⟨len - (i + 1), by omega⟩
            exact spT_none (hst.out.trans hn) d
          clear hn
          go_wp2_with fail
          refine bodyPost_ret (v := .agg #[.int .i64 4, .int .i64 5, .string { data := #[] }]) (by simp [results, Try.results21, go_sem, *]) rfl ⟨by rw [hsn.out]; rfl, ?_⟩
          exact below_fillg (Nat.le_refl _) (HWB.out.th hb9) _ _ _
        · have hsn : Hid (spT A B (i + 1) = some ns) := hst.out.trans hn
          clear hn
          go_wp2_with fail
          go_roundw
          case rel => exact ⟨i + 1, ns, by omega, by go_num, hsn.out, hmn, HVS.out, hb9⟩
          case measure => simp [intOf]; omega
      · have hpn : Hid (spT A B (i + 1) = some s) := by show _ = _; rw [hst.out, pairO, if_neg hk]
        rcases Classical.em (x.k = 1) with hx1 | hx1
        · have tk1 : (x.k != 1) = false := by simp [hx1]
          have tk2 : (y.k != 1) = true := by simp; exact fun h => hk ⟨hx1, h⟩
          clear hk hx1
          go_wp2_with fail
          go_roundw
          case rel => exact ⟨i + 1, s, by omega, by go_num, hpn.out, hms, HVB.out, hbr⟩
          case measure => simp [intOf]; omega
        · have tk1 : (x.k != 1) = true := by simpa using hx1
          clear hk hx1
          go_wp2_with fail
          go_roundw
          case rel => exact ⟨i + 1, s, by omega, by go_num, hpn.out, hms, HVB.out, hbr⟩
          case measure => simp [intOf]; omega
    · obtain rfl : i = len := by omega
      obtain ⟨r0, r1, r2, r3, r4, r5, r6⟩ := hrb
      go_wp2_with fail
      refine bodyPost_ret (v := .agg #[.int .i64 1, .int .i64 s, .string { data := #[] }]) (by simp [results, Try.results21, go_sem, *]) rfl ⟨by rw [HS.out]; rfl, ?_⟩
      exact below_fillg (Nat.le_refl _) (HWB.out.th hbr) _ _ _
theorem sumproduct_ne (a1 : Option Addr) (len cap1 : Nat) (a2 : Option Addr) (len2 cap2 : Nat) (w : World) (h : len ≠ len2) :
    Calls Try.prog 21 #[.slice a1 len cap1, .slice a2 len2 cap2] w (RetV 4 2 { data := #[] } w) := by
  have h' : ((len : Int) != (len2 : Int)) = true := by simp; omega
  clear h
  obtain ⟨W, hW, hbW, hRB⟩ := start1 w
  have HW := Lib.hid hW
  clear hW
  go_enter Try.func21, Try.ntmps21
  go_wp2_with fail
  rw [HW.out]
  refine (vfail_any 2 _).mono ?_
  rintro e w1 ⟨rfl, hb1⟩
  obtain ⟨r0, r1, r2, r3, r4, r5, r6⟩ := hRB.step hb1
  go_wp2_with fail
  refine bodyPost_ret (v := .agg #[.int .i64 4, .int .i64 2, .string { data := #[] }]) (by simp [results, Try.results21, go_sem, *]) rfl ⟨rfl, ?_⟩
  exact below_fillg (Nat.le_refl _) (hbW.th hb1) _ _ _
end Go.Proofs.Ytpnnjmckjipacaa
