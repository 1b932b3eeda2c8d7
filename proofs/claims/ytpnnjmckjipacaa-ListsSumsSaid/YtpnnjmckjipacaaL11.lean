/-
  reckonerlaw11: light, fit: walks. Conditions: each theorem's own.
-/
import Derived.Test.YtpnnjmckjipacaaListsF
import Derived.Test.YtpnnjmckjipacaaArgV
namespace Go.Proofs.Ytpnnjmckjipacaa
open Go.RowKit Num
set_option linter.unusedVariables false

/-- Values that are few, and may be. -/
def Light (len : Nat) (L : List Vl) : Prop := len ≤ 100 ∧ ∀ j, j < len → vr (L.getD j v0).k (L.getD j v0).n (L.getD j v0).s = true
def LightPost (len : Nat) (L : List Vl) (w : World) (e : Ending) (w' : World) : Prop := ∃ B, e = .returned (.bool B) ∧ Below w.heap.size w w' ∧ (B = true → Light len L)

theorem light_any (a : Option Addr) (len cap : Nat) (L : List Vl) (w : World) (h : VArg w a len cap L) :
    Calls Try.prog 10 #[.slice a len cap] w (LightPost len L w) := by
  by_cases h100 : len ≤ 100
  · go_enter Try.func10, Try.ntmps10
    go_wp2_with fail
    go_loopw [10] (fun si wr => ∃ i : Nat, i ≤ len ∧ si = .int .i64 (i : Int) ∧ (∀ j, j < i → vr (L.getD j v0).k (L.getD j v0).n (L.getD j v0).s = true) ∧ Below w.heap.size w wr) (fun si _ => len - (intOf si).toNat)
    case atStart => exact ⟨0, by omega, rfl, fun j hj => by omega, Below.refl _ _⟩
    case round =>
      obtain ⟨i, hi, rfl, hno, hbw⟩ := hrel
      have HNO := Lib.hid hno
      clear hno
      by_cases hlt : i < len
      · have hL := h.1.1
        obtain ⟨b, off, rfl, hB, hc⟩ := (h.1.below hbw).2 (by omega)
        obtain ⟨h1, h2, h3⟩ := hc i (by omega)
        have hvw := h.at hlt
        obtain ⟨v, hv⟩ : ∃ v, L.getD i v0 = v := ⟨_, rfl⟩
        rw [hv] at h1 h2 h3 hvw
        have hrt := fun w => vright_any v.k v.n v.s w hvw.2
        obtain ⟨u, hu⟩ : ∃ u, vr v.k v.n v.s = u := ⟨_, rfl⟩
        rw [hu] at hrt
        have HRT := Lib.hid hrt
        have HU : Hid (vr (L.getD i v0).k (L.getD i v0).n (L.getD i v0).s = u) := by show _ = _; rw [hv, hu]
        have hb1 := below_alloc wr (.cells #[.int .i64 v.k, .int .i64 v.n, .string v.s] 26)
        have hb4 := hbw.trans (hb1.mono hbw.size)
        have HB4 := Lib.hid hb4
        clear hc hv hL hvw hu hrt hb1 hb4
        by_cases hs : 64 < v.s.size
        · have hs' : 64 < (v.s.size : Int) := by omega
          clear hs
          go_wp2_with fail
          go_ret
          exact ⟨false, rfl, HB4.out, fun h => by cases h⟩
        · have hs' : (v.s.size : Int) ≤ 64 := by omega
          clear hs
          go_wp2_with fail
          refine (HRT.out _).mono ?_
          rintro e w2 ⟨rfl, hb2⟩
          have hb5 := HB4.out.trans (hb2.mono HB4.out.size)
          clear hb2
          cases u
          · go_wp2_with fail
            go_ret
            exact ⟨false, rfl, hb5, fun h => by cases h⟩
          · go_wp2_with fail
            go_roundw
            case rel => exact ⟨i + 1, by omega, by go_num, fun j hj => by (rcases Nat.lt_or_ge j i with hj' | hj'; exact HNO.out j hj'; obtain rfl : j = i := (by omega); exact HU.out), hb5⟩
            case measure => simp [intOf]; omega
      · have hi2 : i = len := by omega
        subst hi2
        go_wp2_with fail
        go_ret
        exact ⟨true, rfl, hbw, fun _ => ⟨h100, HNO.out⟩⟩
  · have hl : 100 < (len : Int) := by omega
    clear h100
    go_enter Try.func10, Try.ntmps10
    go_wp2
    go_ret
    exact ⟨false, rfl, Below.refl _ _, fun h => by cases h⟩

/-- A literal list of values. -/
theorem vin_new (w : World) (L : List Vl) : VIn (w.alloc (.cells (vcells L).toArray 26)) (some ⟨w.heap.size, 0, none⟩) L.length L := by
  refine ⟨rfl, fun h0 => ⟨_, _, rfl, by simp, fun j hj => ?_⟩⟩
  obtain ⟨h1, h2, h3⟩ := vcells_at L j hj
  rw [World.cell?_alloc_new, World.cell?_alloc_new, World.cell?_alloc_new]
  simp [h1, h2, h3]
def fitL : List Vl := [⟨1, 1, { data := #[] }⟩, ⟨2, 0, { data := #[120] }⟩, ⟨1, 2, { data := #[] }⟩]
theorem fit_sum (w : World) : Calls Try.prog 12 #[.slice (some ⟨w.heap.size, 0, none⟩) 3 3] (w.alloc (.cells #[.int .i64 1, .int .i64 1, .string { data := #[] }, .int .i64 2, .int .i64 0, .string { data := #[120] }, .int .i64 1, .int .i64 2, .string { data := #[] }] 26))
    (RetV 1 3 { data := #[] } (w.alloc (.cells #[.int .i64 1, .int .i64 1, .string { data := #[] }, .int .i64 2, .int .i64 0, .string { data := #[120] }, .int .i64 1, .int .i64 2, .string { data := #[] }] 26))) := by
  have h := sum_any (some ⟨w.heap.size, 0, none⟩) 3 3 fitL _ (vin_new w fitL) (by omega) (by have : nums fitL = [1, 2] := rfl; rw [this]; intro z hz; simp at hz; unfold Mant; omega)
  have e : sumO (nums fitL) = some 3 := by decide
  rw [e] at h
  exact h
theorem print_zero (w : World) : Calls Try.prog 29 #[.int .i64 0] w fun e w' => e = .returned (.string { data := #[48] }) ∧ Below w.heap.size w w' := by
  refine (print_any 0 w (by omega)).mono ?_
  rintro e w' ⟨rfl, hb⟩
  exact ⟨by rw [show txt 0 = [48] by decide], hb⟩
theorem fit_any (w : World) : Calls Try.prog 9 #[] w fun e w' => e = .returned (.bool true) ∧ Below w.heap.size w w' := by
  go_enter Try.func9, Try.ntmps9
  go_wp2_with fail
  refine (vnum_any 1 _).mono ?_
  rintro e w1 ⟨rfl, hb1⟩
  go_wp2_with fail
  refine (vtext_yes _ _ (by decide)).mono ?_
  rintro e w2 ⟨rfl, hb2'⟩
  have hb2 := hb1.trans (hb2'.mono hb1.size)
  clear hb2' hb1
  go_wp2_with fail
  refine (vnum_any 2 _).mono ?_
  rintro e w3 ⟨rfl, hb3'⟩
  have hb3 := hb2.trans (hb3'.mono hb2.size)
  clear hb3' hb2
  go_wp2_with fail
  refine (fit_sum _).mono ?_
  rintro e w4 ⟨rfl, hb4'⟩
  have hb4 := (hb3.trans ((below_alloc _ _).mono hb3.size)).trans (hb4'.mono (by have := hb3.size; simp; omega))
  clear hb4' hb3
  go_wp2_with fail
  refine (vnum_any 3 _).mono ?_
  rintro e w5 ⟨rfl, hb5'⟩
  have hb5 := hb4.trans (hb5'.mono hb4.size)
  clear hb5' hb4
  go_wp2_with fail
  refine (print_zero _).mono ?_
  rintro e w6 ⟨rfl, hb6'⟩
  have hb6 := hb5.trans (hb6'.mono hb5.size)
  clear hb6' hb5
  go_wp2
  go_ret
  exact ⟨rfl, hb6⟩
end Go.Proofs.Ytpnnjmckjipacaa
