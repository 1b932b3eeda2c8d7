/-
  maths: power, away, round: walks. Conditions: each theorem's own.
-/
import Derived.Test.YtiddefbjnhhiiaaMathsA
import Derived.Deep.DeepCutAuto
namespace Go.Proofs.Ytiddefbjnhhiiaa
open Go.RowKit Num
set_option linter.unusedVariables false
set_option linter.unusedSimpArgs false

/-! ### power -/
def powO (a : Int) : Nat → Option Int
  | 0 => some 1000000
  | k + 1 => mulO (powO a k) a
set_option maxHeartbeats 800000 in
theorem power_any (a : Int) (k : Nat) (w : World) (ha : Mant a) (hk : k ≤ 64) : Calls Try.prog 23 #[.int .i64 a, .int .i64 (k : Int)] w (RetV (oK (powO a k)) (oN (powO a k)) { data := #[] } w) := by
  obtain ⟨W, hW, hbW, hRB⟩ := start1 w
  have HW := Lib.hid hW
  have HA := Lib.hid ha
  obtain ⟨a1, a2⟩ := ha
  clear hW
  go_enter Try.func23, Try.ntmps23
  go_wp2_with fail
  rw [HW.out]
  refine (of_yes 1 _ (by omega)).mono ?_
  rintro e w1 ⟨rfl, rfl⟩
  go_wp2_with fail
  go_loopw [5, 6, 12] (fun s5 s6 si wr => ∃ i : Nat, i ≤ k ∧ si = .int .i64 (i : Int) ∧ foldEnd (powO a i) s5 s6 ∧ Ext W wr) (fun _ _ si _ => k - (intOf si).toNat)
  case atStart => exact ⟨0, by omega, rfl, .inl ⟨1000000, rfl, by unfold Mant; omega, by rfl, rfl⟩, Ext.refl _⟩
  case round =>
    obtain ⟨i, hi, rfl, hfe, hb⟩ := hrel
    by_cases hlt : i < k
    · have hst : Hid (powO a (i + 1) = mulO (powO a i) a) := rfl
      rcases hfe with ⟨s, hs, hsm, rfl, rfl⟩ | ⟨hs, c, rfl, rfl⟩
      · obtain ⟨V, B, hc, hfe⟩ := mul_end s a hsm HA.out
        have HC := Lib.hid hc
        have HFE : Hid (foldEnd (powO a (i + 1)) (.int .i64 V) (.bool B)) := by show foldEnd _ _ _; rw [hst.out, hs]; exact hfe
        obtain ⟨s1, s2⟩ := hsm
        clear hs hc hfe
        go_wp2_with fail
        refine (HC.out _).mono ?_
        rintro e w2 ⟨rfl, hb2⟩
        go_wp2_with fail
        go_roundw
        case rel => exact ⟨i + 1, by omega, by go_num, HFE.out, hb.trans hb2⟩
        case measure => simp [intOf]; omega
      · have HFE : Hid (foldEnd (powO a (i + 1)) (.int .i64 c) (.bool false)) := by show foldEnd _ _ _; rw [hst.out, hs]; exact .inr ⟨rfl, _, rfl, rfl⟩
        clear hs
        go_wp2_with fail
        go_roundw
        case rel => exact ⟨i + 1, by omega, by go_num, HFE.out, hb⟩
        case measure => simp [intOf]; omega
    · obtain rfl : i = k := by omega
      have hm := fun w => made_end hfe w
      obtain ⟨K, hK⟩ : ∃ K, oK (powO a i) = K := ⟨_, rfl⟩
      obtain ⟨N, hN⟩ : ∃ N, oN (powO a i) = N := ⟨_, rfl⟩
      rw [hK, hN] at hm
      have HM := Lib.hid hm
      have HK := Lib.hid hK
      have HN := Lib.hid hN
      clear hm hK hN hfe
      go_wp2_with fail
      refine (HM.out _).mono ?_
      rintro e w2 ⟨rfl, hb2⟩
      have hb3 : Below W.heap.size W w2 := Below.th hb hb2
      obtain ⟨r0, r1, r2, r3, r4, r5, r6⟩ := hRB.step hb3
      go_wp2_with fail
      refine bodyPost_ret (v := .agg #[.int .i64 (K), .int .i64 (N), .string ({ data := #[] })]) (by simp [results, Try.results23, go_sem, *]) rfl ⟨by rw [HK.out, HN.out], below_fillg (Nat.le_refl _) (hbW.th hb3) _ _ _⟩

/-! ### away -/
def awayV (n r : Int) (odd : Bool) : Int :=
  let n1 := if r = 0 then n else n + 1
  if (n1 % 2 == 1) != odd then n1 + 1 else n1
theorem awayV1 {n r : Int} {odd : Bool} (h1 : (r != 0) = true) (h2 : (!((n + 1) % 2 == 1) == odd) = true) : awayV n r odd = n + 1 + 1 := by
  unfold awayV
  by_cases p : (n + 1) % 2 = 1 <;> cases odd <;> simp_all
theorem awayV2 {n r : Int} {odd : Bool} (h1 : (r != 0) = true) (h2 : (!((n + 1) % 2 == 1) == odd) = false) : awayV n r odd = n + 1 := by
  unfold awayV
  by_cases p : (n + 1) % 2 = 1 <;> cases odd <;> simp_all
theorem awayV3 {n r : Int} {odd : Bool} (h1 : (r != 0) = false) (h2 : (!(n % 2 == 1) == odd) = true) : awayV n r odd = n + 1 := by
  unfold awayV
  by_cases p : n % 2 = 1 <;> cases odd <;> simp_all
theorem awayV4 {n r : Int} {odd : Bool} (h1 : (r != 0) = false) (h2 : (!(n % 2 == 1) == odd) = false) : awayV n r odd = n := by
  unfold awayV
  by_cases p : n % 2 = 1 <;> cases odd <;> simp_all
def awayN (a : Int) (odd : Bool) : Int :=
  if a < 0 then -awayV (-(a.tdiv 1000000)) (a.tmod 1000000) odd else awayV (a.tdiv 1000000) (a.tmod 1000000) odd
set_option maxHeartbeats 800000 in
theorem away_any (a : Int) (odd : Bool) (w : World) (ha : Mant a) : Calls Try.prog 29 #[.int .i64 a, .bool odd] w (RetV (oK (ofO (awayN a odd))) (oN (ofO (awayN a odd))) { data := #[] } w) := by
  obtain ⟨W, hW, hbW, hRB⟩ := start1 w
  have HW := Lib.hid hW
  obtain ⟨a1, a2⟩ := ha
  obtain ⟨q, hq⟩ : ∃ q, a.tdiv 1000000 = q := ⟨_, rfl⟩
  obtain ⟨r, hr⟩ : ∃ r, a.tmod 1000000 = r := ⟨_, rfl⟩
  have hq1 : (0 ≤ a → 0 ≤ q ∧ q ≤ 9223372036854) ∧ (a < 0 → -9223372036854 ≤ q ∧ q ≤ 0) := by
    rw [← hq, tdiv_if a _ (by omega)]
    split <;> omega
  have hr1 : -1000000 < r ∧ r < 1000000 := by
    rw [← hr, tmod_if a _]
    split <;> omega
  have hU : ∀ x, x = awayN a odd → Calls Try.prog 24 #[.int .i64 x] W (RetV (oK (ofO (awayN a odd))) (oN (ofO (awayN a odd))) { data := #[] } W) := fun x hx => by rw [← hx]; exact back_any x W
  obtain ⟨K, hK⟩ : ∃ K, oK (ofO (awayN a odd)) = K := ⟨_, rfl⟩
  obtain ⟨N, hN⟩ : ∃ N, oN (ofO (awayN a odd)) = N := ⟨_, rfl⟩
  rw [hK, hN] at hU
  have hA : awayN a odd = if a < 0 then -awayV (-q) r odd else awayV q r odd := by rw [← hq, ← hr]; rfl
  have HA := Lib.hid hA
  have HU := Lib.hid hU
  have HK := Lib.hid hK
  have HN := Lib.hid hN
  have HQ := Lib.hid hq1
  clear hW hA hU hK hN hq1
  have fin : ∀ x, Hid (x = awayN a odd) → Calls Try.prog 24 #[.int .i64 x] W (RetV K N { data := #[] } W) := fun x hx => HU.out x hx.out
  have HF := Lib.hid fin
  clear fin
  by_cases h0 : a < 0
  · have hq2 := HQ.out.2 h0
    obtain ⟨n, rfl⟩ : ∃ n, q = -n := ⟨-q, by omega⟩
    have hn : 0 ≤ n ∧ n ≤ 9223372036854 := by omega
    clear hq2
    have e : awayN a odd = -awayV n r odd := by rw [HA.out, if_pos h0, Int.neg_neg]
    have e1 : Hid ((r != 0) = true → (!((n + 1) % 2 == 1) == odd) = true → -(n + 1 + 1) = awayN a odd) := by
      show _ → _ → _
      intro h1 h2; rw [e, awayV1 h1 h2]
    have e2 : Hid ((r != 0) = true → (!((n + 1) % 2 == 1) == odd) = false → -(n + 1) = awayN a odd) := by
      show _ → _ → _
      intro h1 h2; rw [e, awayV2 h1 h2]
    have e3 : Hid ((r != 0) = false → (!(n % 2 == 1) == odd) = true → -(n + 1) = awayN a odd) := by
      show _ → _ → _
      intro h1 h2; rw [e, awayV3 h1 h2]
    have e4 : Hid ((r != 0) = false → (!(n % 2 == 1) == odd) = false → -n = awayN a odd) := by
      show _ → _ → _
      intro h1 h2; rw [e, awayV4 h1 h2]
    clear e
    clear HA HU
    go_enter Try.func29, Try.ntmps29
    go_wp2_with fail
    all_goals rw [HW.out]
    all_goals refine (HF.out _ (by first | exact Lib.hid (e1.out (by assumption) (by assumption)) | exact Lib.hid (e2.out (by assumption) (by assumption)) | exact Lib.hid (e3.out (by assumption) (by assumption)) | exact Lib.hid (e4.out (by assumption) (by assumption)))).mono ?_
    all_goals rintro e w1 ⟨rfl, hb1⟩
    all_goals obtain ⟨r0, r1, r2, r3, r4, r5, r6⟩ := hRB.step hb1
    all_goals go_wp2_with fail
    all_goals refine bodyPost_ret (v := .agg #[.int .i64 (K), .int .i64 (N), .string ({ data := #[] })]) (by simp [results, Try.results29, go_sem, *]) rfl ⟨by rw [HK.out, HN.out], below_fillg (Nat.le_refl _) (hbW.th hb1) _ _ _⟩
  · have hq2 := HQ.out.1 (by omega)
    obtain ⟨n, rfl⟩ : ∃ n, q = n := ⟨q, rfl⟩
    have hn : 0 ≤ q ∧ q ≤ 9223372036854 := by omega
    clear hq2
    have e : awayN a odd = awayV q r odd := by rw [HA.out, if_neg h0]
    have e1 : Hid ((r != 0) = true → (!((q + 1) % 2 == 1) == odd) = true → q + 1 + 1 = awayN a odd) := by
      show _ → _ → _
      intro h1 h2; rw [e, awayV1 h1 h2]
    have e2 : Hid ((r != 0) = true → (!((q + 1) % 2 == 1) == odd) = false → q + 1 = awayN a odd) := by
      show _ → _ → _
      intro h1 h2; rw [e, awayV2 h1 h2]
    have e3 : Hid ((r != 0) = false → (!(q % 2 == 1) == odd) = true → q + 1 = awayN a odd) := by
      show _ → _ → _
      intro h1 h2; rw [e, awayV3 h1 h2]
    have e4 : Hid ((r != 0) = false → (!(q % 2 == 1) == odd) = false → q = awayN a odd) := by
      show _ → _ → _
      intro h1 h2; rw [e, awayV4 h1 h2]
    clear e
    clear HA HU
    go_enter Try.func29, Try.ntmps29
    go_wp2_with fail
    all_goals rw [HW.out]
    all_goals refine (HF.out _ (by first | exact Lib.hid (e1.out (by assumption) (by assumption)) | exact Lib.hid (e2.out (by assumption) (by assumption)) | exact Lib.hid (e3.out (by assumption) (by assumption)) | exact Lib.hid (e4.out (by assumption) (by assumption)))).mono ?_
    all_goals rintro e w1 ⟨rfl, hb1⟩
    all_goals obtain ⟨r0, r1, r2, r3, r4, r5, r6⟩ := hRB.step hb1
    all_goals go_wp2_with fail
    all_goals refine bodyPost_ret (v := .agg #[.int .i64 (K), .int .i64 (N), .string ({ data := #[] })]) (by simp [results, Try.results29, go_sem, *]) rfl ⟨by rw [HK.out, HN.out], below_fillg (Nat.le_refl _) (hbW.th hb1) _ _ _⟩

/-! ### round -/
def rndQ (a u : Int) : Int :=
  let r := if a.tmod u < 0 then -(a.tmod u) else a.tmod u
  if u - r ≤ r then (if a < 0 then a.tdiv u - 1 else a.tdiv u + 1) else a.tdiv u
def rndO (a u : Int) : Option Int := if (9223372036854775807 : Int) / u < rndQ a u ∨ rndQ a u < -((9223372036854775807 : Int) / u) then none else some (rndQ a u * u)
theorem rnd_close {a u : Int} (hu : 1 ≤ u) (Q : Int) (hQ : Q = rndQ a u) : ((9223372036854775807 : Int) / u < Q → rndO a u = none) ∧
    ((9223372036854775807 : Int) / u < Q ∨ Q < wrap64 (-Int.tdiv 9223372036854775807 u) → rndO a u = none) ∧
    (Q ≤ (9223372036854775807 : Int) / u ∧ wrap64 (-Int.tdiv 9223372036854775807 u) ≤ Q → rndO a u = some (Q * u) ∧ wrap64 (Q * u) = Q * u) := by
  unfold rndO
  rw [← hQ, Int.tdiv_eq_ediv_of_nonneg (by omega)]
  have h1 := Int.ediv_mul_le 9223372036854775807 (b := u) (by omega)
  have h2 : 0 ≤ (9223372036854775807 : Int) / u := Int.ediv_nonneg (by omega) (by omega)
  have h3 : (9223372036854775807 : Int) / u ≤ 9223372036854775807 := Int.ediv_le_self u (by omega)
  obtain ⟨m, hm⟩ : ∃ m, (9223372036854775807 : Int) / u = m := ⟨_, rfl⟩
  rw [hm] at h1 h2 h3 ⊢
  have h4 : wrap64 (-m) = -m := by unfold wrap64; omega
  rw [h4]
  refine ⟨fun h => if_pos (.inl h), fun h => if_pos h, fun h => ⟨if_neg (by omega), ?_⟩⟩
  have h5 : Q * u ≤ m * u := Int.mul_le_mul_of_nonneg_right h.1 (by omega)
  have h6 : -m * u ≤ Q * u := Int.mul_le_mul_of_nonneg_right h.2 (by omega)
  rw [Int.neg_mul] at h6
  obtain ⟨y, hy⟩ : ∃ y, Q * u = y := ⟨_, rfl⟩
  rw [hy] at h5 h6 ⊢
  unfold wrap64; omega
set_option maxHeartbeats 800000 in
theorem round_any (a d : Int) (k : Nat) (w : World) (ha : Mant a) (hd : d = 6 - (k : Int)) (hk : k ≤ 12) : Calls Try.prog 22 #[.int .i64 a, .int .i64 d] w (RetV (oK (rndO a (10 ^ k))) (oN (rndO a (10 ^ k))) { data := #[] } w) := by
  obtain ⟨W, hW, hbW, hRB⟩ := start1 w
  have HW := Lib.hid hW
  have HA := Lib.hid ha
  have hdk : 6 - d = (k : Int) := by omega
  have hdb : -6 ≤ d ∧ d ≤ 6 := by omega
  clear hW hd ha
  go_enter Try.func22, Try.ntmps22
  go_wp2_with fail
  rw [HW.out]
  go_loop [5, 10] (fun su si => ∃ (i : Nat) (u : Int), i ≤ k ∧ si = .int .i64 (i : Int) ∧ su = .int .i64 u ∧ Hid (u = 10 ^ i) ∧ 1 ≤ u ∧ u ≤ 1000000000000) (fun _ si => k - (intOf si).toNat)
  case atStart => exact ⟨0, 1, by omega, rfl, rfl, rfl, by omega, by omega⟩
  case round =>
    obtain ⟨i, u, hi, rfl, rfl, HU, hu1, hu2⟩ := hrel
    by_cases hlt : i < k
    · have hu3 : Hid (u * 10 = 10 ^ (i + 1)) := by show _ = _; rw [HU.out, Int.pow_succ]
      have hu4 : u * 10 ≤ 1000000000000 := by
        rw [hu3.out]
        have h1 : (10 : Int) ^ (i + 1) = ((10 ^ (i + 1) : Nat) : Int) := by push_cast; rfl
        have h2 : (10 : Nat) ^ (i + 1) ≤ 10 ^ 12 := Nat.pow_le_pow_right (by omega) (by omega)
        omega
      go_wp2_with fail
      go_round
      case rel => exact ⟨i + 1, u * 10, by omega, by go_num, rfl, hu3.out, by omega, hu4⟩
      case measure => simp [intOf]; omega
    · obtain rfl : i = k := by omega

      obtain ⟨a1, a2⟩ := HA.out
      obtain ⟨q, hq⟩ : ∃ q, a.tdiv u = q := ⟨_, rfl⟩
      obtain ⟨r, hr⟩ : ∃ r, a.tmod u = r := ⟨_, rfl⟩
      have hqm : Mant q := by rw [← hq]; exact tdiv_mant HA.out u (by omega)
      have hrb : (-u < r ∧ r < u) ∧ (r < 0 → a < 0) ∧ (0 < r → 0 ≤ a) := by
        rw [← hr, tmod_if a u]
        have g1 := Int.emod_nonneg a (b := u) (by omega)
        have g2 := Int.emod_lt_of_pos a (b := u) (by omega)
        have g3 := Int.emod_nonneg (-a) (b := u) (by omega)
        have g4 := Int.emod_lt_of_pos (-a) (b := u) (by omega)
        split <;> omega
      have hQ : rndQ a u = (let r' := if r < 0 then -r else r; if u - r' ≤ r' then (if a < 0 then q - 1 else q + 1) else q) := by rw [← hq, ← hr]; rfl
      have hq1 : -4611686018427387904 ≤ q ∧ q ≤ 4611686018427387904 ∨ u = 1 := by
        rcases Int.lt_or_le u 2 with h | h
        · exact .inr (by omega)
        · refine .inl ?_
          rw [← hq, tdiv_if a u (by omega)]
          split
          · have h1 := Int.ediv_nonneg (a := a) (b := u) (by omega) (by omega)
            have h2 : a / u ≤ a / 2 := by
              rw [Int.le_ediv_iff_mul_le (by omega)]
              have h3 := Int.ediv_mul_le a (b := u) (by omega)
              have h4 : a / u * 2 ≤ a / u * u := Int.mul_le_mul_of_nonneg_left h h1
              omega
            omega
          · have h1 := Int.ediv_nonneg (a := -a) (b := u) (by omega) (by omega)
            have h2 : -a / u ≤ -a / 2 := by
              rw [Int.le_ediv_iff_mul_le (by omega)]
              have h3 := Int.ediv_mul_le (-a) (b := u) (by omega)
              have h4 : -a / u * 2 ≤ -a / u * u := Int.mul_le_mul_of_nonneg_left h h1
              omega
            omega
      have HC : Hid (∀ Q, Q = rndQ a u → _) := fun Q hQ => rnd_close hu1 Q hQ
      have HQ := Lib.hid hQ
      have HQQ := Lib.hid hq
      have HRR := Lib.hid hr
      clear hQ hq hr
      obtain ⟨q1, q2⟩ := hqm
      have rq : IntKind.i64.wrap q = q := by rw [IntKind.wrap_i64]; omega
      have hu0 : ¬ u = 0 := by omega
      have hq := HQQ.out
      have hr := HRR.out
      go_wp2_with fail
      refine region_any (by kernel_rfl) (by kernel_rfl) rfl (fun K hK => ?_)
      repeat (first | (refine seqr_skip (by rfl) (fun ρ => by rfl) ?_; (try simp only [Act.put, List.setIfInBounds_toArray, List.set_cons_zero, List.set_cons_succ])) | (refine seqr_pure (v := ?_) (by rfl) (fun ρ => by rfl) (fun ρ w hE hF => ?_) ?_; rotate_left 1; (· ((try simp only [fill, Act.put, List.setIfInBounds_toArray, List.set_cons_zero, List.set_cons_succ]); go_simp; try with_reducible rfl)); (try simp only [Act.put, List.setIfInBounds_toArray, List.set_cons_zero, List.set_cons_succ])) | (refine seqr_call0 (v := ?_) (f := ?_) (args := ?_) (by rfl) (fun ρ => by rfl) (fun ρ w => ?_) (fun w hE => ?_) ?_; rotate_left 3; (· ((try simp only [fill, Act.put, List.setIfInBounds_toArray, List.set_cons_zero, List.set_cons_succ]); go_simp; constructor <;> with_reducible rfl)); (· (with_reducible exact CallE.call (by assumption) hE)); (try simp only [Act.put, List.setIfInBounds_toArray, List.set_cons_zero, List.set_cons_succ])))
      refine seqr_done (fun ρ wN hEN hFN => ?_); (try simp only [fill, Act.put, List.setIfInBounds_toArray, List.set_cons_zero, List.set_cons_succ]); refine (show K _ _ from hK.out _ _ ?_); clear hK K
      clear rq hq hr
      have hq3 : 1 < u → -4611686018427387904 ≤ q ∧ q ≤ 4611686018427387904 := by
        intro h
        rcases hq1 with h1 | h1 <;> omega
      clear hq1
      obtain ⟨⟨rb1, rb2⟩, rb3, rb4⟩ := hrb
      by_cases hr0 : r < 0
      · have ha0 := rb3 hr0
        by_cases hbig : u - -r ≤ -r
        · have hQ : Hid (q - 1 = rndQ a u) := by show _ = _; rw [HQ.out]; simp only [hr0, if_true, ha0]; rw [if_pos hbig]
          have hqb : -9223372036854775808 ≤ q - 1 := by omega
          clear rb3 rb4 HQ HQQ HRR
          go_wp2_with fail
          all_goals first
            | (have hn : Hid (rndO a u = none) := by (show _ = _; first | (refine (HC.out _ hQ.out).1 ?_; assumption) | (refine (HC.out _ hQ.out).2.1 ?_; assumption))
               refine (vfail_any 5 _).mono ?_
               rintro e w1 ⟨rfl, hb1⟩
               obtain ⟨r0, r1, r2, r3, r4, r5, r6⟩ := hRB.step (hEN.trans hb1)
               go_wp2_with fail
               refine bodyPost_ret (v := .agg #[.int .i64 (4), .int .i64 (5), .string ({ data := #[] })]) (by simp [results, Try.results22, go_sem, *]) rfl ⟨by rw [← HU.out, hn.out]; rfl, below_fillg (Nat.le_refl _) (hbW.th (hEN.trans hb1)) _ _ _⟩)
            | (have hn : Hid (rndO a u = some ((q - 1) * u) ∧ wrap64 ((q - 1) * u) = (q - 1) * u) := by (refine (HC.out _ hQ.out).2.2 ?_; assumption)
               rw [hn.out.2]
               refine (vnum_any _ _).mono ?_
               rintro e w1 ⟨rfl, hb1⟩
               obtain ⟨r0, r1, r2, r3, r4, r5, r6⟩ := hRB.step (hEN.trans hb1)
               go_wp2_with fail
               refine bodyPost_ret (v := .agg #[.int .i64 (1), .int .i64 ((q - 1) * u), .string ({ data := #[] })]) (by simp [results, Try.results22, go_sem, *]) rfl ⟨by rw [← HU.out, hn.out.1]; rfl, below_fillg (Nat.le_refl _) (hbW.th (hEN.trans hb1)) _ _ _⟩)
        · have hQ : Hid (q = rndQ a u) := by show _ = _; rw [HQ.out]; simp only [hr0, if_true, ha0]; rw [if_neg hbig]
          have hbig' : -r < u - -r := by omega
          clear rb3 rb4 HQ HQQ HRR hbig
          go_wp2_with fail
          all_goals first
            | (have hn : Hid (rndO a u = none) := by (show _ = _; first | (refine (HC.out _ hQ.out).1 ?_; assumption) | (refine (HC.out _ hQ.out).2.1 ?_; assumption))
               refine (vfail_any 5 _).mono ?_
               rintro e w1 ⟨rfl, hb1⟩
               obtain ⟨r0, r1, r2, r3, r4, r5, r6⟩ := hRB.step (hEN.trans hb1)
               go_wp2_with fail
               refine bodyPost_ret (v := .agg #[.int .i64 (4), .int .i64 (5), .string ({ data := #[] })]) (by simp [results, Try.results22, go_sem, *]) rfl ⟨by rw [← HU.out, hn.out]; rfl, below_fillg (Nat.le_refl _) (hbW.th (hEN.trans hb1)) _ _ _⟩)
            | (have hn : Hid (rndO a u = some ((q) * u) ∧ wrap64 ((q) * u) = (q) * u) := by (refine (HC.out _ hQ.out).2.2 ?_; assumption)
               rw [hn.out.2]
               refine (vnum_any _ _).mono ?_
               rintro e w1 ⟨rfl, hb1⟩
               obtain ⟨r0, r1, r2, r3, r4, r5, r6⟩ := hRB.step (hEN.trans hb1)
               go_wp2_with fail
               refine bodyPost_ret (v := .agg #[.int .i64 (1), .int .i64 ((q) * u), .string ({ data := #[] })]) (by simp [results, Try.results22, go_sem, *]) rfl ⟨by rw [← HU.out, hn.out.1]; rfl, below_fillg (Nat.le_refl _) (hbW.th (hEN.trans hb1)) _ _ _⟩)
      · by_cases hbig : u - r ≤ r
        · have ha0 : ¬ a < 0 := by have := rb4 (by omega); omega
          have hQ : Hid (q + 1 = rndQ a u) := by show _ = _; rw [HQ.out]; simp only [hr0, if_false, ha0]; rw [if_pos hbig]
          have hu2' : 1 < u := by omega
          have hqb := hq3 hu2'
          clear rb3 rb4 HQ HQQ HRR
          go_wp2_with fail
          all_goals first
            | (have hn : Hid (rndO a u = none) := by (show _ = _; first | (refine (HC.out _ hQ.out).1 ?_; assumption) | (refine (HC.out _ hQ.out).2.1 ?_; assumption))
               refine (vfail_any 5 _).mono ?_
               rintro e w1 ⟨rfl, hb1⟩
               obtain ⟨r0, r1, r2, r3, r4, r5, r6⟩ := hRB.step (hEN.trans hb1)
               go_wp2_with fail
               refine bodyPost_ret (v := .agg #[.int .i64 (4), .int .i64 (5), .string ({ data := #[] })]) (by simp [results, Try.results22, go_sem, *]) rfl ⟨by rw [← HU.out, hn.out]; rfl, below_fillg (Nat.le_refl _) (hbW.th (hEN.trans hb1)) _ _ _⟩)
            | (have hn : Hid (rndO a u = some ((q + 1) * u) ∧ wrap64 ((q + 1) * u) = (q + 1) * u) := by (refine (HC.out _ hQ.out).2.2 ?_; assumption)
               rw [hn.out.2]
               refine (vnum_any _ _).mono ?_
               rintro e w1 ⟨rfl, hb1⟩
               obtain ⟨r0, r1, r2, r3, r4, r5, r6⟩ := hRB.step (hEN.trans hb1)
               go_wp2_with fail
               refine bodyPost_ret (v := .agg #[.int .i64 (1), .int .i64 ((q + 1) * u), .string ({ data := #[] })]) (by simp [results, Try.results22, go_sem, *]) rfl ⟨by rw [← HU.out, hn.out.1]; rfl, below_fillg (Nat.le_refl _) (hbW.th (hEN.trans hb1)) _ _ _⟩)
        · have hQ : Hid (q = rndQ a u) := by show _ = _; rw [HQ.out]; simp only [hr0, if_false]; rw [if_neg hbig]
          have hbig' : r < u - r := by omega
          clear rb3 rb4 HQ HQQ HRR hbig
          go_wp2_with fail
          all_goals first
            | (have hn : Hid (rndO a u = none) := by (show _ = _; first | (refine (HC.out _ hQ.out).1 ?_; assumption) | (refine (HC.out _ hQ.out).2.1 ?_; assumption))
               refine (vfail_any 5 _).mono ?_
               rintro e w1 ⟨rfl, hb1⟩
               obtain ⟨r0, r1, r2, r3, r4, r5, r6⟩ := hRB.step (hEN.trans hb1)
               go_wp2_with fail
               refine bodyPost_ret (v := .agg #[.int .i64 (4), .int .i64 (5), .string ({ data := #[] })]) (by simp [results, Try.results22, go_sem, *]) rfl ⟨by rw [← HU.out, hn.out]; rfl, below_fillg (Nat.le_refl _) (hbW.th (hEN.trans hb1)) _ _ _⟩)
            | (have hn : Hid (rndO a u = some ((q) * u) ∧ wrap64 ((q) * u) = (q) * u) := by (refine (HC.out _ hQ.out).2.2 ?_; assumption)
               rw [hn.out.2]
               refine (vnum_any _ _).mono ?_
               rintro e w1 ⟨rfl, hb1⟩
               obtain ⟨r0, r1, r2, r3, r4, r5, r6⟩ := hRB.step (hEN.trans hb1)
               go_wp2_with fail
               refine bodyPost_ret (v := .agg #[.int .i64 (1), .int .i64 ((q) * u), .string ({ data := #[] })]) (by simp [results, Try.results22, go_sem, *]) rfl ⟨by rw [← HU.out, hn.out.1]; rfl, below_fillg (Nat.le_refl _) (hbW.th (hEN.trans hb1)) _ _ _⟩)
end Go.Proofs.Ytiddefbjnhhiiaa
