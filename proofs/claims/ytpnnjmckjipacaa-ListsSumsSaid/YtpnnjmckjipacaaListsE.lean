/-
  lists: Extreme, Average: walks. Conditions: each theorem's own.
-/
import Derived.Test.YtpnnjmckjipacaaListsD
namespace Go.Proofs.Ytpnnjmckjipacaa
open Go.RowKit Num
set_option linter.unusedVariables false

/-! ### The least, the greatest -/
def better (g : Bool) (b n : Int) : Int := if (decide (b < n) == g && !(n == b)) then n else b
theorem better_no {g : Bool} {b n : Int} (h : (decide (b < n) == g) = false) : better g b n = b := by unfold better; rw [h]; rfl
theorem better_eq {g : Bool} {b n : Int} (h : (n == b) = true) : better g b n = b := by unfold better; rw [h]; simp
theorem better_yes {g : Bool} {b n : Int} (h : (decide (b < n) == g) = true) (h' : (n == b) = false) : better g b n = n := by unfold better; rw [h, h']; rfl
def extV (g : Bool) (zs : List Int) : Int := zs.foldl (better g) (zs.headD 0)

theorem extreme_any (g : Bool) (a : Option Addr) (len cap : Nat) (L : List Vl) (w : World) (h : VIn w a len L) (hl : len ≤ 1000000) :
    Calls Try.prog 13 #[.bool g, .slice a len cap] w (RetV 1 (extV g (nums L)) { data := #[] } w) := by
  go_enter Try.func13, Try.ntmps13
  go_wp2_with fail
  refine (numbers_any a len cap L _ (h.alloc _) hl).mono ?_
  rintro e w1 ⟨a1, cap1, rfl, hin, hcp, hb1⟩
  have hnl := nums_le L
  rw [h.1] at hnl
  obtain ⟨zs, hzs⟩ : ∃ zs, nums L = zs := ⟨_, rfl⟩
  rw [hzs] at hin hnl hcp ⊢
  have HZ := Lib.hid hzs
  clear hzs
  cases zs with
  | nil =>
    go_wp2_with fail
    refine (vnum_any 0 _).mono ?_
    rintro e w2 ⟨rfl, hb2⟩
    have hb3 := hb1.trans (hb2.mono hb1.size)
    obtain ⟨hc, hf⟩ := bcell hb3
    have hz : w.heap.size < w2.heap.size := by have := hb3.size; simp at this; omega
    clear hb2
    go_wp2
    refine bodyPost_ret (v := .agg #[.int .i64 1, .int .i64 0, .string { data := #[] }]) (by simp [results, Try.results13, go_sem, hc]) rfl ⟨by rw [HZ.out]; rfl, below_fill hb3 _ _ _⟩
  | cons z0 zt =>
    obtain ⟨zs, hzs⟩ : ∃ zs, z0 :: zt = zs := ⟨_, rfl⟩
    have hpos : 1 ≤ zs.length := by rw [← hzs]; simp
    have hhd : zs.headD 0 = z0 := by rw [← hzs]; rfl
    have hg0 : zs.getD 0 0 = z0 := by rw [← hzs]; rfl
    rw [hzs] at hin hcp hnl HZ ⊢
    obtain ⟨b, off, rfl, hB, hc⟩ := hin.2 (by omega)
    have hc0 := hc 0 (by omega)
    rw [hg0, Nat.add_zero] at hc0
    obtain ⟨m, hmm⟩ : ∃ m, zs.length = m := ⟨_, rfl⟩
    rw [hmm] at hin hcp hc hpos hnl ⊢
    have HL := Lib.hid hmm
    have HC := Lib.hid hc
    have HHD := Lib.hid hhd
    have tl : ((m : Int) == 0) = false := by simp; omega
    clear hc hzs hhd hg0 hmm hin
    go_wp2_with fail
    go_loop [6, 8, 20] (fun sb _ si => ∃ i : Nat, i ≤ m ∧ si = .int .i64 (i : Int) ∧ sb = .int .i64 ((zs.take i).foldl (better g) z0)) (fun _ _ si => m - (intOf si).toNat)
    case atStart => exact ⟨0, by omega, rfl, rfl⟩
    case round =>
      obtain ⟨i, hi, rfl, rfl⟩ := hrel
      by_cases hlt : i < m
      · have hci := HC.out i hlt
        obtain ⟨z, hz⟩ : ∃ z, zs.getD i 0 = z := ⟨_, rfl⟩
        rw [hz] at hci
        have hst : (zs.take (i + 1)).foldl (better g) z0 = better g ((zs.take i).foldl (better g) z0) z := by rw [take_int (by rw [HL.out]; exact hlt), List.foldl_append, hz]; rfl
        obtain ⟨s, hs⟩ : ∃ s, (zs.take i).foldl (better g) z0 = s := ⟨_, rfl⟩
        rw [hs] at hst ⊢
        clear hz hs
        have HST := Lib.hid hst
        clear hst
        obtain ⟨u, hu⟩ : ∃ u, (decide (s < z) == g) = u := ⟨_, rfl⟩
        have HU := Lib.hid hu
        cases u
        · go_wp2_with fail
          go_round
          case rel => exact ⟨i + 1, by omega, by go_num, by rw [HST.out, better_no HU.out]⟩
          case measure => simp [intOf]; omega
        · obtain ⟨v, hv⟩ : ∃ v, (z == s) = v := ⟨_, rfl⟩
          have HV := Lib.hid hv
          cases v
          · go_wp2_with fail
            go_round
            case rel => exact ⟨i + 1, by omega, by go_num, by rw [HST.out, better_yes HU.out HV.out]⟩
            case measure => simp [intOf]; omega
          · go_wp2_with fail
            go_round
            case rel => exact ⟨i + 1, by omega, by go_num, by rw [HST.out, better_eq HV.out]⟩
            case measure => simp [intOf]; omega
      · have hall : zs.take i = zs := List.take_of_length_le (by rw [HL.out]; omega)
        rw [hall]
        obtain ⟨r, hr⟩ : ∃ r, zs.foldl (better g) z0 = r := ⟨_, rfl⟩
        have HR : Hid (extV g (nums L) = r) := by show _ = _; unfold extV; rw [HZ.out, HHD.out, hr]
        rw [hr]
        clear hr hall
        go_wp2_with fail
        refine (vnum_any r _).mono ?_
        rintro e w2 ⟨rfl, hb2⟩
        have hb3 := hb1.trans (hb2.mono hb1.size)
        obtain ⟨hc, hf⟩ := bcell hb3
        have hz : w.heap.size < w2.heap.size := by have := hb3.size; simp at this; omega
        clear hb2
        go_wp2
        refine bodyPost_ret (v := .agg #[.int .i64 1, .int .i64 r, .string { data := #[] }]) (by simp [results, Try.results13, go_sem, hc]) rfl ⟨by rw [HR.out], below_fill hb3 _ _ _⟩

/-! ### The average -/
def quoO (s b : Int) : Option Int := if mulOk (s.natAbs * 1000000) b.natAbs then some (mulV (negOf s b) (s.natAbs * 1000000) b.natAbs) else none
def avgO (zs : List Int) : Option Int := (sumO zs).bind fun s => quoO s ((zs.length : Int) * 1000000)
def avgK (zs : List Int) : Int := if zs.length = 0 then 4 else oK (avgO zs)
def avgN (zs : List Int) : Int := if zs.length = 0 then 1 else oN (avgO zs)
theorem sumO_bd (zs : List Int) : ∀ s, sumO zs = some s → Mant s := by
  suffices ∀ (zs : List Int) (o : Option Int), (∀ s, o = some s → Mant s) → ∀ s, zs.foldl addO o = some s → Mant s from this zs (some 0) (fun s h => by cases h; unfold Mant; omega)
  intro zs
  induction zs with
  | nil => intro o h s hs; exact h s hs
  | cons z zs ih =>
    intro o h
    refine ih (addO o z) fun s hs => ?_
    unfold addO at hs
    cases o with
    | none => simp at hs
    | some t =>
      simp only [Option.bind_some] at hs
      split at hs
      · rename_i hf; cases hs; unfold fitI at hf; simpa [Mant] using hf
      · cases hs
/-- What num.Quo hands back, made a value. -/
theorem made_mul {neg : Bool} {n c : Nat} (w : World) : Calls Try.prog 24 #[.int .i64 (mulV neg n c), .bool (mulOk n c)] w (RetV (oK (if mulOk n c then some (mulV neg n c) else none)) (oN (if mulOk n c then some (mulV neg n c) else none)) { data := #[] } w) := by
  cases h : mulOk n c
  · exact vmade_no _ w
  · exact vmade_yes _ w

theorem quo_end (s d : Int) (hs : Mant s) (hd : Mant d) (h0 : d ≠ 0) : ∃ V B k n, k = oK (quoO s d) ∧ n = oN (quoO s d) ∧
    (∀ w, Calls Try.prog 27 #[.int .i64 s, .int .i64 d] w fun e w' => e = .returned (.tuple #[.int .i64 V, .bool B]) ∧ Below w.heap.size w w') ∧
    (∀ w, Calls Try.prog 24 #[.int .i64 V, .bool B] w (RetV k n { data := #[] } w)) :=
  ⟨_, _, _, _, rfl, rfl, fun w => quo_any s d w hs hd h0, fun w => made_mul w⟩
set_option maxHeartbeats 800000 in
theorem average_any (a : Option Addr) (len cap : Nat) (L : List Vl) (w : World) (h : VIn w a len L) (hl : len ≤ 1000000) (hm : Mants (nums L)) :
    Calls Try.prog 26 #[.slice a len cap] w (RetV (avgK (nums L)) (avgN (nums L)) { data := #[] } w) := by
  obtain ⟨W, hW, hbW, hRB⟩ := start1 w
  have HW := Lib.hid hW
  clear hW
  have hsum := fun w h => sum_any a len cap L w h hl hm
  have hsb := sumO_bd (nums L)
  have hnl := nums_le L
  rw [h.1] at hnl
  obtain ⟨zs, hzs⟩ : ∃ zs, nums L = zs := ⟨_, rfl⟩
  obtain ⟨K, hK⟩ : ∃ K, avgK (nums L) = K := ⟨_, rfl⟩
  obtain ⟨N, hN⟩ : ∃ N, avgN (nums L) = N := ⟨_, rfl⟩
  rw [hK, hN]
  have hnum := fun w h => numbers_any a len cap L w h hl
  unfold NumbersPost at hnum
  rw [hzs] at hsum hsb hK hN hnum hnl
  obtain ⟨m, hmm⟩ : ∃ m, zs.length = m := ⟨_, rfl⟩
  rw [hmm] at hnum hnl
  have HM := Lib.hid hmm
  have HSUM := Lib.hid hsum
  have HSB := Lib.hid hsb
  have HNUM := Lib.hid hnum
  have HK := Lib.hid hK
  have HN := Lib.hid hN
  clear hsum hsb hK hN hzs hnum hmm hm
  go_enter Try.func26, Try.ntmps26
  obtain ⟨o, ho⟩ : ∃ o, sumO zs = o := ⟨_, rfl⟩
  have HO := Lib.hid ho
  have hsum2 := HSUM.out
  rw [ho] at hsum2
  obtain ⟨k1, hk1⟩ : ∃ x, oK o = x := ⟨_, rfl⟩
  obtain ⟨n1, hn1⟩ : ∃ x, oN o = x := ⟨_, rfl⟩
  rw [hk1, hn1] at hsum2
  have HS2 := Lib.hid hsum2
  have HK1 := Lib.hid hk1
  have HN1 := Lib.hid hn1
  clear ho hsum2 hk1 hn1 HSUM
  go_wp2_with fail
  rw [HW.out]
  refine (HS2.out _ (h.below hbW)).mono ?_
  rintro e w1 ⟨rfl, hb1⟩
  have hw1 := hbW.trans (hb1.mono hbW.size)
  have hrb := (hRB.step hb1)
  go_wp2_with fail
  have hbx := below_alloc w1 (.cells #[.int .i64 k1, .int .i64 n1, .string { data := #[] }] 26)
  have hXB := XB.new w1 ⟨k1, n1, { data := #[] }⟩
  have hrb2 := hrb.step hbx
  have hw2 := hw1.trans (hbx.mono hw1.size)
  refine (HNUM.out _ (h.below hw2)).mono ?_
  rintro e w3 ⟨a3, cap3, rfl, -, -, hb3⟩
  have hw3 := hw2.trans (hb3.mono hw2.size)
  obtain ⟨x0, x1, x2, x3⟩ := hXB.step hb3
  have hrb3 := hrb2.step hb3
  clear hrb2 hXB hbx hb3 hrb hRB hbW hb1 hw1 hw2 HNUM
  by_cases h0 : m = 0
  · subst h0
    have HK2 : Hid (K = 4) := by show _ = _; rw [← HK.out]; unfold avgK; rw [if_pos HM.out]
    have HN2 : Hid (N = 1) := by show _ = _; rw [← HN.out]; unfold avgN; rw [if_pos HM.out]
    go_wp2_with fail
    refine (vfail_any 1 _).mono ?_
    rintro e w4 ⟨rfl, hb4⟩
    have hw4 := hw3.trans (hb4.mono hw3.size)
    obtain ⟨g0, c0, c1, c2, f0, f1, f2⟩ := hrb3.step hb4
    clear hb4
    go_wp2
    refine bodyPost_ret (v := .agg #[.int .i64 4, .int .i64 1, .string { data := #[] }]) (by simp [results, Try.results26, go_sem, c0, c1, c2]) rfl ⟨by rw [HK2.out, HN2.out], below_fillg (Nat.le_refl _) hw4 _ _ _⟩
  · have tm : ((m : Int) == 0) = false := by simp; omega
    have hlen0 : ¬ zs.length = 0 := by rw [HM.out]; exact h0
    have HA : Hid (avgO zs = o.bind fun s => quoO s ((m : Int) * 1000000)) := by show _ = _; unfold avgO; rw [HO.out, HM.out]
    cases o with
    | none =>
      obtain rfl : 4 = k1 := HK1.out
      obtain rfl : 5 = n1 := HN1.out
      have HK2 : Hid (K = 4) := by show _ = _; rw [← HK.out]; unfold avgK; rw [if_neg hlen0, HA.out]; rfl
      have HN2 : Hid (N = 5) := by show _ = _; rw [← HN.out]; unfold avgN; rw [if_neg hlen0, HA.out]; rfl
      obtain ⟨g0, c0, c1, c2, f0, f1, f2⟩ := hrb3
      clear hlen0
      go_wp2
      refine bodyPost_ret (v := .agg #[.int .i64 4, .int .i64 5, .string { data := #[] }]) (by simp [results, Try.results26, go_sem, c0, c1, c2]) rfl ⟨by rw [HK2.out, HN2.out], below_fillg (Nat.le_refl _) hw3 _ _ _⟩
    | some s =>
      obtain rfl : 1 = k1 := HK1.out
      obtain rfl : s = n1 := HN1.out
      have hsm := HSB.out s HO.out
      have hd1 : -9223372036854775807 ≤ (m : Int) * 1000000 ∧ (m : Int) * 1000000 ≤ 9223372036854775807 := by omega
      have hd0 : (m : Int) * 1000000 ≠ 0 := by omega
      obtain ⟨d, hd⟩ : ∃ d, (m : Int) * 1000000 = d := ⟨_, rfl⟩
      rw [hd] at hd1 hd0 HA
      obtain ⟨V, B, k2, n2, hk2, hn2, hquo, hmade⟩ := quo_end s d hsm hd1 hd0
      have HQ := Lib.hid hquo
      have HMD := Lib.hid hmade
      have HK2 : Hid (K = k2) := by show _ = _; rw [← HK.out]; unfold avgK; rw [if_neg hlen0, HA.out, hk2]; rfl
      have HN2 : Hid (N = n2) := by show _ = _; rw [← HN.out]; unfold avgN; rw [if_neg hlen0, HA.out, hn2]; rfl
      clear hquo hmade hk2 hn2 hlen0 hd0 hd1
      go_wp2_with fail
      refine (HQ.out _).mono ?_
      rintro e w4 ⟨rfl, hb4⟩
      have hw4 := hw3.trans (hb4.mono hw3.size)
      have hrb4 := hrb3.step hb4
      clear hb4
      go_wp2_with fail
      refine (HMD.out _).mono ?_
      rintro e w5 ⟨rfl, hb5⟩
      have hw5 := hw4.trans (hb5.mono hw4.size)
      obtain ⟨g0, c0, c1, c2, f0, f1, f2⟩ := hrb4.step hb5
      clear hb5 hrb3 hrb4
      go_wp2
      refine bodyPost_ret (v := .agg #[.int .i64 k2, .int .i64 n2, .string { data := #[] }]) (by simp [results, Try.results26, go_sem, c0, c1, c2]) rfl ⟨by rw [HK2.out, HN2.out], below_fillg (Nat.le_refl _) hw5 _ _ _⟩
end Go.Proofs.Ytpnnjmckjipacaa
