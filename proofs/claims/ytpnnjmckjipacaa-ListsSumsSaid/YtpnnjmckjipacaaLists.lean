/-
  lists: numbers, Sum: walks. Conditions: each theorem's own.
-/
import Derived.Test.YtpnnjmckjipacaaVals
import Derived.Test.YtpnnjmckjipacaaMulW
namespace Go.Proofs.Ytpnnjmckjipacaa
open Go.RowKit Num
set_option linter.unusedVariables false

/-- The numbers among values. -/
def nums (L : List Vl) : List Int := (L.filter fun v => v.k == 1).map (·.n)
theorem nums_snoc (L : List Vl) (v : Vl) : nums (L ++ [v]) = nums L ++ if v.k == 1 then [v.n] else [] := by
  unfold nums
  rw [List.filter_append, List.map_append]
  by_cases h : v.k == 1 <;> simp [h]
theorem nums_le (L : List Vl) : (nums L).length ≤ L.length := by unfold nums; rw [List.length_map]; exact List.length_filter_le _ _
theorem take_vl {L : List Vl} {k : Nat} (h : k < L.length) : L.take (k + 1) = L.take k ++ [L.getD k v0] := by
  rw [List.take_succ_eq_append_getElem h, List.getD_eq_getElem?_getD, List.getElem?_eq_getElem h]; rfl

def NumbersPost (L : List Vl) (w : World) (e : Ending) (w' : World) : Prop :=
  ∃ a cap, e = .returned (.slice a (nums L).length cap) ∧ IIn w' a (nums L).length (nums L) ∧ (nums L).length ≤ cap ∧ Below w.heap.size w w'
theorem numbers_any (a : Option Addr) (len cap : Nat) (L : List Vl) (w : World) (h : VIn w a len L) (hl : len ≤ 1000000) :
    Calls Try.prog 32 #[.slice a len cap] w (NumbersPost L w) := by
  go_enter Try.func32, Try.ntmps32
  go_wp2_with fail
  go_loopw [3, 8] (fun so si wr => ∃ i : Nat, i ≤ len ∧ si = .int .i64 (i : Int) ∧ wr.ownsRow w.heap.size 2 1 so (nums (L.take i)).length (iv (nums (L.take i))) ∧ Below w.heap.size w wr) (fun _ si _ => len - (intOf si).toNat)
  case atStart => exact ⟨0, by omega, rfl, World.ownsRow_nil _ _ _ _, Below.refl _ _⟩
  case round =>
    obtain ⟨i, hi, rfl, hown, hb⟩ := hrel
    by_cases hlt : i < len
    · have hL := h.1
      obtain ⟨b, off, rfl, hB, hc⟩ := (h.below hb).2 (by omega)
      obtain ⟨h1, h2, h3⟩ := hc i (by omega)
      have hsn := take_vl (L := L) (k := i) (by omega)
      obtain ⟨v, hv⟩ : ∃ v, L.getD i v0 = v := ⟨_, rfl⟩
      rw [hv] at h1 h2 h3 hsn
      have hnl := nums_le (L.take i)
      have hlt2 : (nums (L.take i)).length ≤ 1000000 := by rw [List.length_take] at hnl; omega
      have hst : Hid (nums (L.take (i + 1)) = nums (L.take i) ++ if v.k == 1 then [v.n] else []) := by show _ = _; rw [hsn, nums_snoc]
      clear hv hsn hc hnl hL
      by_cases hk : v.k = 1
      · have tk : (v.k == 1) = true := by simp [hk]
        have hst2 : Hid (nums (L.take (i + 1)) = nums (L.take i) ++ [v.n]) := by show _ = _; rw [hst.out, if_pos tk]
        clear hk
        go_wp2_with (at_builtin; refine app_int rfl (.tmp 15) (.tmp 18) rfl _ (nums (L.take i)) rfl (hown.alloc _) (hb.alloc hb.size _) v.n rfl (by simp) (by omega) ?_; intro v' w1 hown' hb')
        go_roundw
        case rel => exact ⟨i + 1, by omega, by go_num, by rw [hst2.out]; exact hown', hb'⟩
        case measure => simp [intOf]; omega
      · have tk : (v.k == 1) = false := by simp [hk]
        have hst2 : Hid (nums (L.take (i + 1)) = nums (L.take i)) := by show _ = _; rw [hst.out, tk]; simp
        clear hk
        go_wp2
        go_roundw
        case rel => exact ⟨i + 1, by omega, by go_num, by rw [hst2.out]; exact hown.alloc _, hb.alloc hb.size _⟩
        case measure => simp [intOf]; omega
    · have hi2 : i = len := by omega
      have hall : L.take i = L := List.take_of_length_le (by rw [h.1]; omega)
      rw [hall] at hown
      obtain ⟨a', cap', rfl, hin, hcp⟩ := own_ints hown
      clear hi2 hall
      go_wp2
      go_ret
      exact ⟨a', cap', rfl, hin, hcp, hb⟩

/-! ### Sums and products, or none -/
def fitI (x : Int) : Bool := decide (-9223372036854775807 ≤ x ∧ x ≤ 9223372036854775807)
def addO (o : Option Int) (z : Int) : Option Int := o.bind fun s => if fitI (s + z) then some (s + z) else none
def sumO (zs : List Int) : Option Int := zs.foldl addO (some 0)
theorem sumO_snoc (zs : List Int) (z : Int) : sumO (zs ++ [z]) = addO (sumO zs) z := by simp [sumO, List.foldl_append]
theorem take_int {zs : List Int} {k : Nat} (h : k < zs.length) : zs.take (k + 1) = zs.take k ++ [zs.getD k 0] := by
  rw [List.take_succ_eq_append_getElem h, List.getD_eq_getElem?_getD, List.getElem?_eq_getElem h]; rfl
def Mant (z : Int) : Prop := -9223372036854775807 ≤ z ∧ z ≤ 9223372036854775807
def Mants (zs : List Int) : Prop := ∀ z ∈ zs, Mant z
theorem Mants.at {zs : List Int} (h : Mants zs) {k : Nat} (hk : k < zs.length) : Mant (zs.getD k 0) := by
  rw [List.getD_eq_getElem?_getD, List.getElem?_eq_getElem hk]; exact h _ (List.getElem_mem hk)
def foldEnd (o : Option Int) (sn so : Value) : Prop := (∃ s, o = some s ∧ Mant s ∧ sn = .int .i64 s ∧ so = .bool true) ∨ (o = none ∧ ∃ c, sn = .int .i64 c ∧ so = .bool false)

/-- A number, or #NUM!. -/
def oK : Option Int → Int | some _ => 1 | none => 4
def oN : Option Int → Int | some s => s | none => 5

/-- Made of what a fold has left. -/
theorem made_end {o : Option Int} {sn so : Value} (h : foldEnd o sn so) (w : World) : Calls Try.prog 24 #[sn, so] w (RetV (oK o) (oN o) { data := #[] } w) := by
  rcases h with ⟨s, rfl, _, rfl, rfl⟩ | ⟨rfl, c, rfl, rfl⟩
  · exact vmade_yes s w
  · exact vmade_no c w

set_option maxHeartbeats 800000 in
theorem sum_any (a : Option Addr) (len cap : Nat) (L : List Vl) (w : World) (h : VIn w a len L) (hl : len ≤ 1000000) (hm : Mants (nums L)) :
    Calls Try.prog 12 #[.slice a len cap] w (RetV (oK (sumO (nums L))) (oN (sumO (nums L))) { data := #[] } w) := by
  go_enter Try.func12, Try.ntmps12
  go_wp2_with fail
  refine (numbers_any a len cap L _ (h.alloc _) hl).mono ?_
  rintro e w1 ⟨a1, cap1, rfl, hin, -, hb1⟩
  have hnl := nums_le L
  rw [h.1] at hnl
  obtain ⟨zs, hzs⟩ : ∃ zs, nums L = zs := ⟨_, rfl⟩
  rw [hzs] at hm hin hnl ⊢
  have HZ := Lib.hid hzs
  clear hzs
  have hzl := hin.1
  obtain ⟨m, hm1⟩ : ∃ m, zs.length = m := ⟨_, rfl⟩
  rw [hm1] at hin hnl ⊢
  have HM := Lib.hid hm
  have HL := Lib.hid hm1
  clear hm hzl hm1
  go_wp2_with fail
  go_loop [3, 4, 6, 10] (fun sn so _ si => ∃ i : Nat, i ≤ m ∧ si = .int .i64 (i : Int) ∧ foldEnd (sumO (zs.take i)) sn so) (fun _ _ _ si => m - (intOf si).toNat)
  case atStart => exact ⟨0, by omega, rfl, Or.inl ⟨0, rfl, by unfold Mant; omega, rfl, rfl⟩⟩
  case round =>
    obtain ⟨i, hi, rfl, hfe⟩ := hrel
    by_cases hlt : i < m
    · obtain ⟨b, off, rfl, hB, hc⟩ := hin.2 (by omega)
      have hci := hc i hlt
      obtain ⟨z, hz⟩ : ∃ z, zs.getD i 0 = z := ⟨_, rfl⟩
      rw [hz] at hci
      have hzm : Mant z := by rw [← hz]; exact HM.out.at (by rw [HL.out]; exact hlt)
      have hst : Hid (sumO (zs.take (i + 1)) = addO (sumO (zs.take i)) z) := by show _ = _; rw [take_int (by rw [HL.out]; exact hlt), sumO_snoc, hz]
      obtain ⟨hz1, hz2⟩ := hzm
      clear hc hz
      rcases hfe with ⟨s, hs, ⟨hs1, hs2⟩, rfl, rfl⟩ | ⟨hs, c, rfl, rfl⟩
      · have HS := Lib.hid hs
        clear hs
        by_cases hf : -9223372036854775807 ≤ s + z ∧ s + z ≤ 9223372036854775807
        · have hst2 : Hid (sumO (zs.take (i + 1)) = some (s + z)) := by show _ = _; rw [hst.out, HS.out]; exact if_pos (decide_eq_true hf)
          go_wp2_with fail
          refine (add_yes s z _ ⟨hs1, hs2⟩ ⟨hz1, hz2⟩ hf).mono ?_
          rintro e w' ⟨rfl, rfl⟩
          go_wp2_with fail
          go_round
          case rel => exact ⟨i + 1, by omega, by go_num, Or.inl ⟨_, hst2.out, hf, rfl, rfl⟩⟩
          case measure => simp [intOf]; omega
        · have hst2 : Hid (sumO (zs.take (i + 1)) = none) := by show _ = _; rw [hst.out, HS.out]; exact if_neg (by unfold fitI; simpa using hf)
          go_wp2_with fail
          refine (add_no s z _ ⟨hs1, hs2⟩ ⟨hz1, hz2⟩ hf).mono ?_
          rintro e w' ⟨c, rfl, rfl⟩
          go_wp2_with fail
          go_round
          case rel => exact ⟨i + 1, by omega, by go_num, Or.inr ⟨hst2.out, _, rfl, rfl⟩⟩
          case measure => simp [intOf]; omega
      · have hst2 : Hid (sumO (zs.take (i + 1)) = none) := by show _ = _; rw [hst.out, hs]; rfl
        clear hs
        go_wp2_with fail
        go_round
        case rel => exact ⟨i + 1, by omega, by go_num, Or.inr ⟨hst2.out, _, rfl, rfl⟩⟩
        case measure => simp [intOf]; omega
    · have hall : zs.take i = zs := List.take_of_length_le (by rw [HL.out]; omega)
      rw [hall] at hfe
      have hme := fun w => made_end hfe w
      rw [← HZ.out] at hme
      obtain ⟨K, hK⟩ : ∃ K, oK (sumO (nums L)) = K := ⟨_, rfl⟩
      obtain ⟨N, hN⟩ : ∃ N, oN (sumO (nums L)) = N := ⟨_, rfl⟩
      rw [hK, hN] at hme
      have HME := Lib.hid hme
      have HK := Lib.hid hK
      have HN := Lib.hid hN
      clear hall hme hK hN hfe
      go_wp2_with fail
      refine (HME.out _).mono ?_
      rintro e w2 ⟨rfl, hb2⟩
      have hb3 := hb1.trans (hb2.mono hb1.size)
      obtain ⟨hc, hf⟩ := bcell hb3
      have hz : w.heap.size < w2.heap.size := by have := hb3.size; simp at this; omega
      clear hb2
      go_wp2
      refine bodyPost_ret (v := .agg #[.int .i64 K, .int .i64 N, .string { data := #[] }]) (by simp [results, Try.results12, go_sem, hc]) rfl ⟨by rw [HK.out, HN.out], below_fill hb3 _ _ _⟩
end Go.Proofs.Ytpnnjmckjipacaa
