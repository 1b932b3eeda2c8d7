/-
  maths: whole, back, power, away, round: walks. Conditions: each theorem's own.
-/
import Derived.Test.YtiddefbjnhhiiaaVals
import Derived.Test.YtiddefbjnhhiiaaMulW
import Derived.Test.YtiddefbjnhhiiaaRegion
import Derived.Outline
namespace Go.Proofs.Ytiddefbjnhhiiaa
open Go.RowKit Num
set_option linter.unusedVariables false
set_option linter.unusedSimpArgs false

theorem _root_.Go.RowKit.Below.th {W a b : World} (h : Below W.heap.size W a) (k : Below a.heap.size a b) : Below W.heap.size W b := h.trans (k.mono h.size)
theorem _root_.Go.RowKit.Below.al {W a : World} (h : Below W.heap.size W a) (o : Obj) : Below W.heap.size W (a.alloc o) := h.alloc h.size o
def Mant (z : Int) : Prop := -9223372036854775807 ≤ z ∧ z ≤ 9223372036854775807
def oK : Option Int → Int | some _ => 1 | none => 4
def oN : Option Int → Int | some s => s | none => 5
def foldEnd (o : Option Int) (sn so : Value) : Prop := (∃ s, o = some s ∧ Mant s ∧ sn = .int .i64 s ∧ so = .bool true) ∨ (o = none ∧ ∃ c, sn = .int .i64 c ∧ so = .bool false)
theorem made_end {o : Option Int} {sn so : Value} (h : foldEnd o sn so) (w : World) : Calls Try.prog 15 #[sn, so] w (RetV (oK o) (oN o) { data := #[] } w) := by
  rcases h with ⟨s, rfl, _, rfl, rfl⟩ | ⟨rfl, c, rfl, rfl⟩
  · exact vmade_yes s w
  · exact vmade_no c w
theorem mulV_bd (g : Bool) (n c : Nat) : -9223372036854775807 ≤ mulV g n c ∧ mulV g n c ≤ 9223372036854775807 := by
  unfold mulV sgn
  split
  · split <;> omega
  · omega
def mulO (o : Option Int) (z : Int) : Option Int := o.bind fun s => if mulOk (s.natAbs * z.natAbs) 1000000 then some (mulV (negOf s z) (s.natAbs * z.natAbs) 1000000) else none
theorem mul_end (x y : Int) (hx : Mant x) (hy : Mant y) : ∃ V B, (∀ w, Calls Try.prog 13 #[.int .i64 x, .int .i64 y] w fun e w' => e = .returned (.tuple #[.int .i64 V, .bool B]) ∧ Ext w w') ∧ foldEnd (mulO (some x) y) (.int .i64 V) (.bool B) := by
  refine ⟨_, _, fun w => mul_any x y w hx hy, ?_⟩
  unfold mulO
  simp only [Option.bind_some]
  by_cases h : mulOk (x.natAbs * y.natAbs) 1000000 = true
  · exact .inl ⟨_, by rw [if_pos h], mulV_bd _ _ _, rfl, by rw [h]⟩
  · exact .inr ⟨by rw [if_neg h], _, rfl, by simpa using h⟩

/-! ### back -/
def ofO (n : Int) : Option Int := if -9223372036854 ≤ n ∧ n ≤ 9223372036854 then some (n * 1000000) else none
theorem of_end (n : Int) : ∃ V B, (∀ w, Calls Try.prog 31 #[.int .i64 n] w fun e w' => e = .returned (.tuple #[.int .i64 V, .bool B]) ∧ Ext w w') ∧ foldEnd (ofO n) (.int .i64 V) (.bool B) := by
  by_cases h : -9223372036854 ≤ n ∧ n ≤ 9223372036854
  · refine ⟨n * 1000000, true, fun w => (of_yes n w h).mono ?_, .inl ⟨_, if_pos h, by unfold Mant; omega, rfl, rfl⟩⟩
    rintro e w' ⟨rfl, rfl⟩
    exact ⟨rfl, Ext.refl _⟩
  · refine ⟨0, false, fun w => (of_no n w (by omega)).mono ?_, .inr ⟨if_neg h, _, rfl, rfl⟩⟩
    rintro e w' ⟨rfl, rfl⟩
    exact ⟨rfl, Ext.refl _⟩
theorem back_any (n : Int) (w : World) : Calls Try.prog 24 #[.int .i64 n] w (RetV (oK (ofO n)) (oN (ofO n)) { data := #[] } w) := by
  obtain ⟨V, B, hof, hfe⟩ := of_end n
  have hm := fun w => made_end hfe w
  obtain ⟨K, hK⟩ : ∃ K, oK (ofO n) = K := ⟨_, rfl⟩
  obtain ⟨N, hN⟩ : ∃ N, oN (ofO n) = N := ⟨_, rfl⟩
  rw [hK, hN] at hm ⊢
  have HOF := Lib.hid hof
  have HM := Lib.hid hm
  clear hof hm hK hN hfe
  obtain ⟨W, hW, hbW, hRB⟩ := start1 w
  have HW := Lib.hid hW
  clear hW
  go_enter Try.func24, Try.ntmps24
  go_wp2_with fail
  rw [HW.out]
  refine (HOF.out _).mono ?_
  rintro e w1 ⟨rfl, hb1⟩
  go_wp2_with fail
  refine (HM.out _).mono ?_
  rintro e w2 ⟨rfl, hb2⟩
  have hb : Below W.heap.size W w2 := Below.th hb1 hb2
  obtain ⟨r0, r1, r2, r3, r4, r5, r6⟩ := hRB.step hb
  go_wp2_with fail
  refine bodyPost_ret (v := .agg #[.int .i64 (K), .int .i64 (N), .string ({ data := #[] })]) (by simp [results, Try.results24, go_sem, *]) rfl ⟨rfl, below_fillg (Nat.le_refl _) (hbW.th hb) _ _ _⟩

theorem tdiv_if (z c : Int) (hc : 0 < c) : z.tdiv c = if 0 ≤ z then z / c else -((-z) / c) := by
  by_cases h : 0 ≤ z
  · rw [if_pos h, Int.tdiv_eq_ediv_of_nonneg h]
  · rw [if_neg h]
    have : z.tdiv c = -((-z).tdiv c) := by rw [Int.neg_tdiv, Int.neg_neg]
    rw [this, Int.tdiv_eq_ediv_of_nonneg (by omega)]
theorem tmod_if (z c : Int) : z.tmod c = if 0 ≤ z then z % c else -((-z) % c) := by
  by_cases h : 0 ≤ z
  · rw [if_pos h, Int.tmod_eq_emod_of_nonneg h]
  · rw [if_neg h]
    have : z.tmod c = -((-z).tmod c) := by rw [Int.neg_tmod, Int.neg_neg]
    rw [this, Int.tmod_eq_emod_of_nonneg (by omega)]
theorem tdiv_mant {z : Int} (h : Mant z) (c : Int) (hc : 0 < c) : Mant (z.tdiv c) := by
  unfold Mant at *
  rw [tdiv_if z c hc]
  split
  · have h1 := Int.ediv_nonneg (a := z) (b := c) (by omega) (by omega)
    have h2 := Int.ediv_le_self (a := z) c (by omega)
    omega
  · have h1 := Int.ediv_nonneg (a := -z) (b := c) (by omega) (by omega)
    have h2 := Int.ediv_le_self (a := -z) c (by omega)
    omega

/-! ### whole -/
def WholesPost (zs : List Int) (w : World) (e : Ending) (w' : World) : Prop :=
  ∃ a cap, e = .returned (.slice a zs.length cap) ∧ IIn w' a zs.length (zs.map (·.tdiv 1000000)) ∧ zs.length ≤ cap ∧ Below w.heap.size w w'
theorem wholes_any (a : Option Addr) (len cap : Nat) (zs : List Int) (w : World) (h : IIn w a len zs) (hl : len ≤ 1000) (hm : ∀ z ∈ zs, Mant z) :
    Calls Try.prog 21 #[.slice a len cap] w (WholesPost zs w) := by
  have hlen := h.1
  go_enter Try.func21, Try.ntmps21
  go_wp2_with fail
  go_loopw [3, 5, 8] (fun so _ si wr => ∃ i : Nat, i ≤ len ∧ si = .int .i64 (i : Int) ∧ wr.ownsRow w.heap.size 2 1 so ((zs.take i).map (·.tdiv 1000000)).length (iv ((zs.take i).map (·.tdiv 1000000))) ∧ Below w.heap.size w wr) (fun _ _ si _ => len - (intOf si).toNat)
  case atStart => exact ⟨0, by omega, rfl, World.ownsRow_nil _ _ _ _, Below.refl _ _⟩
  case round =>
    obtain ⟨i, hi, rfl, hown, hb⟩ := hrel
    by_cases hlt : i < len
    · obtain ⟨b, off, rfl, hB, hc⟩ := (h.below hb).2 (by omega)
      have h1 := hc i (by omega)
      obtain ⟨z, hz⟩ : ∃ z, zs.getD i 0 = z := ⟨_, rfl⟩
      rw [hz] at h1
      have hzm : Mant z := by
        rw [← hz, List.getD_eq_getElem?_getD, List.getElem?_eq_getElem (by omega)]
        exact hm _ (List.getElem_mem _)
      have hst : Hid ((zs.take (i + 1)).map (·.tdiv 1000000) = (zs.take i).map (·.tdiv 1000000) ++ [z.tdiv 1000000]) := by
        show _ = _
        rw [List.take_succ_eq_append_getElem (by omega), List.map_append, ← hz, List.getD_eq_getElem?_getD, List.getElem?_eq_getElem (by omega)]
        rfl
      obtain ⟨z1, z2⟩ := hzm
      have hl2 : ((zs.take i).map (·.tdiv 1000000)).length ≤ 1000 := by rw [List.length_map, List.length_take]; omega
      obtain ⟨D, hD⟩ : ∃ D, z.tdiv 1000000 = D := ⟨_, rfl⟩
      have hDb : -9223372036854775807 ≤ D ∧ D ≤ 9223372036854775807 := by rw [← hD]; exact tdiv_mant ⟨z1, z2⟩ 1000000 (by omega)
      rw [hD] at hst
      clear hz hc hm
      go_wp2_with (at_builtin; refine app_int rfl (.tmp 12) (.tmp 15) rfl _ ((zs.take i).map (·.tdiv 1000000)) rfl hown hb D rfl (by simp) (by omega) ?_; intro v' w1 hown' hb')
      go_roundw
      case rel => exact ⟨i + 1, by omega, by go_num, by rw [hst.out]; exact hown', hb'⟩
      case measure => simp [intOf]; omega
    · have hi2 : i = len := by omega
      have hall : zs.take i = zs := List.take_of_length_le (by omega)
      rw [hall] at hown
      obtain ⟨a', cap', rfl, hin, hcp⟩ := own_ints hown
      rw [List.length_map] at hin hcp ⊢
      clear hi2 hall
      go_wp2
      go_ret
      exact ⟨a', cap', by rw [hlen]; rfl, hin, hcp, hb⟩
end Go.Proofs.Ytiddefbjnhhiiaa
