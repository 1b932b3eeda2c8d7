/-
  lists: Product: walk. Conditions: each theorem's own.
-/
import Derived.Test.YtpnnjmckjipacaaLists
namespace Go.Proofs.Ytpnnjmckjipacaa
open Go.RowKit Num
set_option linter.unusedVariables false

theorem mulV_bd (g : Bool) (n c : Nat) : -9223372036854775807 ≤ mulV g n c ∧ mulV g n c ≤ 9223372036854775807 := by
  unfold mulV sgn
  split
  · split <;> omega
  · omega
def mulO (o : Option Int) (z : Int) : Option Int := o.bind fun s => if mulOk (s.natAbs * z.natAbs) 1000000 then some (mulV (negOf s z) (s.natAbs * z.natAbs) 1000000) else none
def prodO : List Int → Option Int | [] => some 0 | z :: r => r.foldl mulO (some z)

set_option maxHeartbeats 800000 in
theorem product_any (a : Option Addr) (len cap : Nat) (L : List Vl) (w : World) (h : VIn w a len L) (hl : len ≤ 1000000) (hm : Mants (nums L)) :
    Calls Try.prog 25 #[.slice a len cap] w (RetV (oK (prodO (nums L))) (oN (prodO (nums L))) { data := #[] } w) := by
  go_enter Try.func25, Try.ntmps25
  go_wp2_with fail
  refine (numbers_any a len cap L _ (h.alloc _) hl).mono ?_
  rintro e w1 ⟨a1, cap1, rfl, hin, hcp, hb1⟩
  have hnl := nums_le L
  rw [h.1] at hnl
  obtain ⟨zs, hzs⟩ : ∃ zs, nums L = zs := ⟨_, rfl⟩
  rw [hzs] at hm hin hnl hcp ⊢
  have HZ := Lib.hid hzs
  clear hzs
  cases zs with
  | nil =>
    have HP : Hid (prodO (nums L) = some 0) := by show _ = _; rw [HZ.out]; rfl
    go_wp2_with fail
    refine (vnum_any 0 _).mono ?_
    rintro e w2 ⟨rfl, hb2⟩
    have hb3 := hb1.trans (hb2.mono hb1.size)
    obtain ⟨hc, hf⟩ := bcell hb3
    have hz : w.heap.size < w2.heap.size := by have := hb3.size; simp at this; omega
    clear hb2
    go_wp2
    refine bodyPost_ret (v := .agg #[.int .i64 1, .int .i64 0, .string { data := #[] }]) (by simp [results, Try.results25, go_sem, hc]) rfl ⟨by rw [HP.out]; rfl, below_fill hb3 _ _ _⟩
  | cons z0 zt =>
    have hnl' : zt.length + 1 ≤ 1000000 := by simpa using (Nat.le_trans hnl hl)
    obtain ⟨b, off, rfl, hB, hc⟩ := hin.2 (by simp)
    have hc0 := hc 0 (by simp)
    have hct : ∀ j, j < zt.length → w1.cell? ⟨b, off + 1 + j, none⟩ = some (.int .i64 (zt.getD j 0)) := fun j hj => by
      have := hc (j + 1) (by simpa using hj)
      rw [show off + 1 + j = off + (j + 1) by omega]
      simpa using this
    have hm0 := hm z0 (by simp)
    have hmt : Mants zt := fun z hz => hm z (by simp [hz])
    have HCT := Lib.hid hct
    have HMT := Lib.hid hmt
    have hc0' : w1.cell? ⟨b, off, none⟩ = some (.int .i64 z0) := by simpa using hc0
    obtain ⟨m, hmm⟩ : ∃ m, (z0 :: zt).length = m := ⟨_, rfl⟩
    have hm2 : m = zt.length + 1 := by rw [← hmm]; simp
    rw [hmm] at hin hcp ⊢
    have HL := Lib.hid hm2
    clear hc hct hmt hc0 hmm hm2 hm
    have hm1 : 1 ≤ m := by have := HL.out; omega
    have hmb : m ≤ 1000000 := by have := HL.out; omega
    have tl : ((m : Int) == 0) = false := by simp; omega
    have HM0 := Lib.hid hm0
    have HHIN := Lib.hid hin
    clear hm0 hin
    by_cases hcap : cap1 = 1
    · have hcap' : m ≤ 1 := by omega
      subst hcap
      go_wp2_with fail
      go_loopw [4, 5, 7, 20] (fun sn so _ si wr => ∃ i : Nat, i ≤ m - 1 ∧ si = .int .i64 (i : Int) ∧ foldEnd ((zt.take i).foldl mulO (some z0)) sn so ∧ Below w1.heap.size w1 wr) (fun _ _ _ si _ => m - 1 - (intOf si).toNat)
      case atStart => exact ⟨0, by omega, rfl, Or.inl ⟨z0, rfl, HM0.out, rfl, rfl⟩, Below.refl _ _⟩
      case round =>
        obtain ⟨i, hi, rfl, hfe, hbr⟩ := hrel
        by_cases hlt : i < m - 1
        · exact absurd hlt (by omega)
        · have hlt' : ¬ (i : Int) < ((m - 1 : Nat) : Int) := by omega
          have hall : zt.take i = zt := List.take_of_length_le (by have := HL.out; omega)
          rw [hall] at hfe
          have hme := fun w => made_end hfe w
          have hpr : zt.foldl mulO (some z0) = prodO (nums L) := by rw [HZ.out]; rfl
          rw [hpr] at hme
          obtain ⟨K, hK⟩ : ∃ K, oK (prodO (nums L)) = K := ⟨_, rfl⟩
          obtain ⟨N, hN⟩ : ∃ N, oN (prodO (nums L)) = N := ⟨_, rfl⟩
          rw [hK, hN] at hme
          have HME := Lib.hid hme
          have HK := Lib.hid hK
          have HN := Lib.hid hN
          have hb4 := hb1.trans (hbr.mono hb1.size)
          clear hall hme hK hN hfe hpr hbr
          go_wp2_with fail
          refine (HME.out _).mono ?_
          rintro e w2 ⟨rfl, hb2⟩
          have hb3 := hb4.trans (hb2.mono hb4.size)
          obtain ⟨hc, hf⟩ := bcell hb3
          have hz : w.heap.size < w2.heap.size := by have := hb3.size; simp at this; omega
          clear hb2
          go_wp2
          refine bodyPost_ret (v := .agg #[.int .i64 K, .int .i64 N, .string { data := #[] }]) (by simp [results, Try.results25, go_sem, hc]) rfl ⟨by rw [HK.out, HN.out], below_fill hb3 _ _ _⟩
    · go_wp2_with fail
      go_loopw [4, 5, 7, 20] (fun sn so _ si wr => ∃ i : Nat, i ≤ m - 1 ∧ si = .int .i64 (i : Int) ∧ foldEnd ((zt.take i).foldl mulO (some z0)) sn so ∧ Below w1.heap.size w1 wr) (fun _ _ _ si _ => m - 1 - (intOf si).toNat)
      case atStart => exact ⟨0, by omega, rfl, Or.inl ⟨z0, rfl, HM0.out, rfl, rfl⟩, Below.refl _ _⟩
      case round =>
        obtain ⟨i, hi, rfl, hfe, hbr⟩ := hrel
        by_cases hlt : i < m - 1
        · have hci := (hbr.cell (p := ⟨b, off + 1 + i, none⟩) hB).trans (HCT.out i (by have := HL.out; omega))
          obtain ⟨z, hz⟩ : ∃ z, zt.getD i 0 = z := ⟨_, rfl⟩
          rw [hz] at hci
          have hlt' : (i : Int) < ((m - 1 : Nat) : Int) := by omega
          have hzm : Mant z := by rw [← hz]; exact HMT.out.at (by have := HL.out; omega)
          have hst : Hid ((zt.take (i + 1)).foldl mulO (some z0) = mulO ((zt.take i).foldl mulO (some z0)) z) := by show _ = _; rw [take_int (by have := HL.out; omega), List.foldl_append, hz]; rfl
          clear hz
          rcases hfe with ⟨s, hs, hsm, rfl, rfl⟩ | ⟨hs, c, rfl, rfl⟩
          · have HS := Lib.hid hs
            clear hs
            have hmul := fun w => mul_any s z w hsm hzm
            have hbd := mulV_bd (negOf s z) (s.natAbs * z.natAbs) 1000000
            unfold MulEnd at hmul
            have hst2 : (zt.take (i + 1)).foldl mulO (some z0) = if mulOk (s.natAbs * z.natAbs) 1000000 then some (mulV (negOf s z) (s.natAbs * z.natAbs) 1000000) else none := by rw [hst.out, HS.out]; rfl
            obtain ⟨V, hV⟩ : ∃ V, mulV (negOf s z) (s.natAbs * z.natAbs) 1000000 = V := ⟨_, rfl⟩
            obtain ⟨K, hK⟩ : ∃ V, mulOk (s.natAbs * z.natAbs) 1000000 = V := ⟨_, rfl⟩
            rw [hV, hK] at hmul hst2
            rw [hV] at hbd
            have HMU := Lib.hid hmul
            have HS2 := Lib.hid hst2
            have HBD := Lib.hid hbd
            clear hmul hV hK hst2 hbd
            go_wp2_with fail
            refine (HMU.out _).mono ?_
            rintro e w2 ⟨rfl, hb2⟩
            have hb3 := hbr.trans (hb2.mono hbr.size)
            clear hb2
            cases K
            · go_wp2_with fail
              go_roundw
              case rel => exact ⟨i + 1, by omega, by go_num, Or.inr ⟨HS2.out, _, rfl, rfl⟩, hb3⟩
              case measure => simp [intOf]; omega
            · go_wp2_with fail
              go_roundw
              case rel => exact ⟨i + 1, by omega, by go_num, Or.inl ⟨_, HS2.out, HBD.out, rfl, rfl⟩, hb3⟩
              case measure => simp [intOf]; omega
          · have hst2 : Hid ((zt.take (i + 1)).foldl mulO (some z0) = none) := by show _ = _; rw [hst.out, hs]; rfl
            clear hs
            go_wp2_with fail
            go_roundw
            case rel => exact ⟨i + 1, by omega, by go_num, Or.inr ⟨hst2.out, _, rfl, rfl⟩, hbr⟩
            case measure => simp [intOf]; omega
        · have hlt' : ¬ (i : Int) < ((m - 1 : Nat) : Int) := by omega
          have hall : zt.take i = zt := List.take_of_length_le (by have := HL.out; omega)
          rw [hall] at hfe
          have hme := fun w => made_end hfe w
          have hpr : zt.foldl mulO (some z0) = prodO (nums L) := by rw [HZ.out]; rfl
          rw [hpr] at hme
          obtain ⟨K, hK⟩ : ∃ K, oK (prodO (nums L)) = K := ⟨_, rfl⟩
          obtain ⟨N, hN⟩ : ∃ N, oN (prodO (nums L)) = N := ⟨_, rfl⟩
          rw [hK, hN] at hme
          have HME := Lib.hid hme
          have HK := Lib.hid hK
          have HN := Lib.hid hN
          have hb4 := hb1.trans (hbr.mono hb1.size)
          clear hall hme hK hN hfe hpr hbr
          go_wp2_with fail
          refine (HME.out _).mono ?_
          rintro e w2 ⟨rfl, hb2⟩
          have hb3 := hb4.trans (hb2.mono hb4.size)
          obtain ⟨hc, hf⟩ := bcell hb3
          have hz : w.heap.size < w2.heap.size := by have := hb3.size; simp at this; omega
          clear hb2
          go_wp2
          refine bodyPost_ret (v := .agg #[.int .i64 K, .int .i64 N, .string { data := #[] }]) (by simp [results, Try.results25, go_sem, hc]) rfl ⟨by rw [HK.out, HN.out], below_fill hb3 _ _ _⟩
end Go.Proofs.Ytpnnjmckjipacaa
