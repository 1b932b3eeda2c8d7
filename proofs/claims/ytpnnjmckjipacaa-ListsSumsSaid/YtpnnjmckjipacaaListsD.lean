/-
  lists: SumIf, Match, Extreme, Average: walks. Conditions: each theorem's own.
-/
import Derived.Test.YtpnnjmckjipacaaListsC
namespace Go.Proofs.Ytpnnjmckjipacaa
open Go.RowKit Num
set_option linter.unusedVariables false

theorem nums_filter_sub (L : List Vl) (p : Vl → Bool) (h : Mants (nums L)) : Mants (nums (L.filter p)) := by
  intro z hz
  apply h
  unfold nums at hz ⊢
  simp only [List.mem_map, List.mem_filter] at hz ⊢
  obtain ⟨v, ⟨⟨h1, h2⟩, h3⟩, h4⟩ := hz
  exact ⟨v, ⟨h1, h3⟩, h4⟩

set_option maxHeartbeats 800000 in
theorem sumif_any (x : Vl) (a : Option Addr) (len cap : Nat) (L : List Vl) (w : World) (h : VIn w a len L) (hl : len ≤ 1000000) (hm : Mants (nums L)) :
    Calls Try.prog 17 #[.agg #[.int .i64 x.k, .int .i64 x.n, .string x.s], .slice a len cap] w (RetV (oK (sumO (nums (L.filter fun v => veq v x)))) (oN (sumO (nums (L.filter fun v => veq v x)))) { data := #[] } w) := by
  have hmf := nums_filter_sub L (fun v => veq v x) hm
  obtain ⟨p, hp⟩ : ∃ p, (fun v => veq v x) = p := ⟨_, rfl⟩
  rw [hp] at hmf ⊢
  have HP := Lib.hid hp
  have HMF := Lib.hid hmf
  clear hp hmf hm
  obtain ⟨W, hW, hbW, hXB, hRB⟩ := start2 w x
  have HW := Lib.hid hW
  clear hW
  go_enter Try.func17, Try.ntmps17
  go_wp2_with fail
  rw [HW.out]
  go_loopw [5, 10] (fun so si wr => ∃ i : Nat, i ≤ len ∧ si = .int .i64 (i : Int) ∧ wr.ownsRow W.heap.size 26 3 so ((L.take i).filter p).length (vcells ((L.take i).filter p)) ∧ Below W.heap.size W wr) (fun _ si _ => len - (intOf si).toNat)
  case atStart => exact ⟨0, by omega, rfl, World.ownsRow_nil _ _ _ _, Below.refl _ _⟩
  case round =>
    obtain ⟨i, hi, rfl, hown, hbW2⟩ := hrel
    have hbw := hbW.trans (hbW2.mono hbW.size)
    have hcl := cnt_le p (L.take i)
    have hcl2 : ((L.take i).filter p).length ≤ 1000000 := by rw [List.length_take] at hcl; unfold cnt at hcl; omega
    clear hcl
    by_cases hlt : i < len
    · have hL := h.1
      obtain ⟨b, off, rfl, hB, hc⟩ := (h.below hbw).2 (by omega)
      obtain ⟨h1, h2, h3⟩ := hc i (by omega)
      obtain ⟨x0, x1, x2, x3⟩ := hXB.step hbW2
      have hsn := take_vl (L := L) (k := i) (by omega)
      obtain ⟨v, hv⟩ : ∃ v, L.getD i v0 = v := ⟨_, rfl⟩
      rw [hv] at h1 h2 h3 hsn
      have hst : (L.take (i + 1)).filter p = (L.take i).filter p ++ if p v then [v] else [] := by rw [hsn, List.filter_append]; by_cases h : p v <;> simp [h]
      have hpv : p v = veq v x := by rw [← HP.out]
      have heq := fun w => equal_any v x w
      rw [← hpv] at heq
      obtain ⟨u, hu⟩ : ∃ u, p v = u := ⟨_, rfl⟩
      rw [hu] at hst heq
      have HEQ := Lib.hid heq
      have HST := Lib.hid hst
      clear hv hsn hc hL hpv hu heq hst
      go_wp2_with fail
      refine (HEQ.out _).mono ?_
      rintro e w2 ⟨rfl, hb2⟩
      have hb1 := below_alloc wr (.cells #[.int .i64 v.k, .int .i64 v.n, .string v.s] 26)
      obtain ⟨y0, y1, y2, y3⟩ := (XB.new wr v).step hb2
      have hown2 := (hown.alloc (.cells #[.int .i64 v.k, .int .i64 v.n, .string v.s] 26)).below hb2
      have hb4 := hbW2.trans ((hb1.trans (hb2.mono hb1.size)).mono hbW2.size)
      clear hb1 hb2 hown
      cases u
      · go_wp2
        go_roundw
        case rel => exact ⟨i + 1, by omega, by go_num, by rw [HST.out]; simpa using hown2, hb4⟩
        case measure => simp [intOf]; omega
      · go_wp2_with (at_builtin; refine app_val rfl (.tmp 17) (.tmp 19) rfl _ ((L.take i).filter p) rfl hown2 hb4 v rfl (by simp) (by omega) ?_; intro v' w3 hown' hb')
        go_roundw
        case rel => exact ⟨i + 1, by omega, by go_num, by rw [HST.out]; exact hown', hb'⟩
        case measure => simp [intOf]; omega
    · have hall : L.take i = L := List.take_of_length_le (by rw [h.1]; omega)
      rw [hall] at hown hcl2
      obtain ⟨a', cap', rfl, hin, hcp⟩ := own_vals hown
      have hsum := fun w h => sum_any a' _ cap' (L.filter p) w h hcl2 HMF.out
      obtain ⟨K, hK⟩ : ∃ K, oK (sumO (nums (L.filter p))) = K := ⟨_, rfl⟩
      obtain ⟨N, hN⟩ : ∃ K, oN (sumO (nums (L.filter p))) = K := ⟨_, rfl⟩
      rw [hK, hN] at hsum
      have HSUM := Lib.hid hsum
      have HK := Lib.hid hK
      have HN := Lib.hid hN
      have HIN := Lib.hid hin
      clear hall hsum hK hN hown hin
      go_wp2_with fail
      refine (HSUM.out _ HIN.out).mono ?_
      rintro e w2 ⟨rfl, hb2⟩
      have hb3 := hbw.trans (hb2.mono hbw.size)
      obtain ⟨g0, c0, c1, c2, f0, f1, f2⟩ := (hRB.step hbW2).step hb2
      clear hb2
      go_wp2
      refine bodyPost_ret (v := .agg #[.int .i64 K, .int .i64 N, .string { data := #[] }]) (by simp [results, Try.results17, go_sem, c0, c1, c2]) rfl ⟨by rw [HK.out, HN.out], below_fillg (by omega) hb3 _ _ _⟩

/-! ### What is found -/
def MatchPost (x : Vl) (L : List Vl) (w : World) (e : Ending) (w' : World) : Prop :=
  ((∃ i, i < L.length ∧ veq (L.getD i v0) x = true ∧ (∀ j, j < i → veq (L.getD j v0) x = false) ∧ e = .returned (.agg #[.int .i64 1, .int .i64 (((i : Int) + 1) * 1000000), .string { data := #[] }])) ∨
   ((∀ j, j < L.length → veq (L.getD j v0) x = false) ∧ e = .returned (.agg #[.int .i64 4, .int .i64 6, .string { data := #[] }]))) ∧ Below w.heap.size w w'
set_option maxHeartbeats 800000 in
theorem match_any (x : Vl) (a : Option Addr) (len cap : Nat) (L : List Vl) (w : World) (h : VIn w a len L) (hl : len ≤ 1000000) :
    Calls Try.prog 14 #[.agg #[.int .i64 x.k, .int .i64 x.n, .string x.s], .slice a len cap] w (MatchPost x L w) := by
  obtain ⟨W, hW, hbW, hXB, hRB⟩ := start2 w x
  have HW := Lib.hid hW
  clear hW
  go_enter Try.func14, Try.ntmps14
  go_wp2_with fail
  rw [HW.out]
  go_loopw [9] (fun si wr => ∃ i : Nat, i ≤ len ∧ si = .int .i64 (i : Int) ∧ (∀ j, j < i → veq (L.getD j v0) x = false) ∧ Below W.heap.size W wr) (fun si _ => len - (intOf si).toNat)
  case atStart => exact ⟨0, by omega, rfl, fun j hj => by omega, Below.refl _ _⟩
  case round =>
    obtain ⟨i, hi, rfl, hno, hbW2⟩ := hrel
    have HNO := Lib.hid hno
    clear hno
    have hbw := hbW.trans (hbW2.mono hbW.size)
    by_cases hlt : i < len
    · have hL := h.1
      obtain ⟨b, off, rfl, hB, hc⟩ := (h.below hbw).2 (by omega)
      obtain ⟨h1, h2, h3⟩ := hc i (by omega)
      obtain ⟨x0, x1, x2, x3⟩ := hXB.step hbW2
      obtain ⟨v, hv⟩ : ∃ v, L.getD i v0 = v := ⟨_, rfl⟩
      rw [hv] at h1 h2 h3
      have heq := fun w => equal_any v x w
      obtain ⟨u, hu⟩ : ∃ u, veq v x = u := ⟨_, rfl⟩
      rw [hu] at heq
      have HEQ := Lib.hid heq
      have HU : Hid (veq (L.getD i v0) x = u) := by show _ = _; rw [hv, hu]
      have HL := Lib.hid hL
      clear hc hu heq hv hL
      go_wp2_with fail
      refine (HEQ.out _).mono ?_
      rintro e w2 ⟨rfl, hb2⟩
      have hb1 := below_alloc wr (.cells #[.int .i64 v.k, .int .i64 v.n, .string v.s] 26)
      have hb4 := hbW2.trans ((hb1.trans (hb2.mono hb1.size)).mono hbW2.size)
      clear hb1 hb2
      cases u
      · go_wp2
        go_roundw
        case rel => exact ⟨i + 1, by omega, by go_num, fun j hj => by (rcases Nat.lt_or_ge j i with hj' | hj'; exact HNO.out j hj'; obtain rfl : j = i := (by omega); exact HU.out), hb4⟩
        case measure => simp [intOf]; omega
      · go_wp2_with fail
        refine (of_yes ((i : Int) + 1) _ (by omega)).mono ?_
        rintro e w' ⟨rfl, rfl⟩
        go_wp2_with fail
        refine (vmade_yes _ _).mono ?_
        rintro e w3 ⟨rfl, hb3⟩
        have hb5 := hb4.trans (hb3.mono hb4.size)
        have hb6 := hbW.trans (hb5.mono hbW.size)
        obtain ⟨g0, c0, c1, c2, f0, f1, f2⟩ := hRB.step hb5
        clear hb3 hb4
        go_wp2
        refine bodyPost_ret (v := .agg #[.int .i64 1, .int .i64 (((i : Int) + 1) * 1000000), .string { data := #[] }]) (by simp [results, Try.results14, go_sem, c0, c1, c2]) rfl ⟨Or.inl ⟨i, by rw [HL.out]; exact hlt, HU.out, HNO.out, rfl⟩, below_fillg (by omega) hb6 _ _ _⟩
    · have HL := Lib.hid h.1
      go_wp2_with fail
      refine (vfail_any 6 _).mono ?_
      rintro e w3 ⟨rfl, hb3⟩
      have hb5 := hbW2.trans (hb3.mono hbW2.size)
      have hb6 := hbW.trans (hb5.mono hbW.size)
      obtain ⟨g0, c0, c1, c2, f0, f1, f2⟩ := hRB.step hb5
      clear hb3
      go_wp2
      refine bodyPost_ret (v := .agg #[.int .i64 4, .int .i64 6, .string { data := #[] }]) (by simp [results, Try.results14, go_sem, c0, c1, c2]) rfl ⟨Or.inr ⟨fun j hj => HNO.out j (by have := HL.out; omega), rfl⟩, below_fillg (by omega) hb6 _ _ _⟩
end Go.Proofs.Ytpnnjmckjipacaa
