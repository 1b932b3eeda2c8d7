/-
  maths: gcd, Two: walks. Conditions: each theorem's own.
-/
import Derived.Test.YtiddefbjnhhiiaaMathsC
namespace Go.Proofs.Ytiddefbjnhhiiaa
open Go.RowKit Num
set_option linter.unusedVariables false
set_option linter.unusedSimpArgs false

theorem gcd_any (x y : Nat) (w : World) (hx : x ≤ 9223372036854775807) (hy : y ≤ 9223372036854775807) :
    Calls Try.prog 25 #[.int .i64 (x : Int), .int .i64 (y : Int)] w fun e w' => e = .returned (.int .i64 (Nat.gcd x y : Nat)) ∧ Ext w w' := by
  obtain ⟨G, hG⟩ : ∃ G, Nat.gcd x y = G := ⟨_, rfl⟩
  rw [hG]
  have HG := Lib.hid hG
  clear hG
  go_enter Try.func25, Try.ntmps25
  go_wp2_with fail
  go_loopw [0, 1] (fun s0 s1 wr => ∃ p q : Nat, p ≤ 9223372036854775807 ∧ q ≤ 9223372036854775807 ∧ s0 = .int .i64 (p : Int) ∧ s1 = .int .i64 (q : Int) ∧ Hid (Nat.gcd p q = G) ∧ Ext w wr) (fun _ s1 _ => (intOf s1).toNat)
  case atStart => exact ⟨x, y, hx, hy, rfl, rfl, HG, Ext.refl _⟩
  case round =>
    obtain ⟨p, q, hp, hq, rfl, rfl, hg, hE⟩ := hrel
    by_cases h0 : q = 0
    · have hg0 : Hid (p = G) := by show _ = _; rw [← hg.out, h0, Nat.gcd_zero_right]
      have t0 : ((q : Int) != 0) = false := by simp [h0]
      clear h0 hg
      go_wp2_with fail
      go_ret
      exact ⟨by rw [hg0.out]; rfl, hE⟩
    · have t0 : ((q : Int) != 0) = true := by simp; omega
      have hu0 : ¬ q = 0 := h0
      have hlt : Hid (p % q < q) := Nat.mod_lt _ (by omega)
      have hle : Hid (p % q ≤ 9223372036854775807) := by show _ ≤ _; have := hlt.out; omega
      have hgs : Hid (Nat.gcd q (p % q) = G) := by show _ = _; rw [← hg.out, Nat.gcd_comm p q, Nat.gcd_rec q p, Nat.gcd_comm]
      have hmod : Hid ((p : Int) % (q : Int) = ((p % q : Nat) : Int)) := by show _ = _; omega
      have hp0 : (0 : Int) ≤ p := by omega
      have hq1 : (1 : Int) ≤ q := by omega
      obtain ⟨x, hx'⟩ : ∃ x, ((p % q : Nat) : Int) = x := ⟨_, rfl⟩
      have hmx : (p : Int).tmod (q : Int) = x := by rw [Int.tmod_eq_emod_of_nonneg hp0, hmod.out, hx']
      have hmx2 : (p : Int) % (q : Int) = x := by rw [hmod.out, hx']
      have hxx := Lib.hid hx'
      have hx1 : 0 ≤ x ∧ x ≤ 9223372036854775807 := by have := hle.out; omega
      have rx : IntKind.i64.wrap x = x := by rw [IntKind.wrap_i64]; omega
      clear h0 hg hx'
      go_wp2_with fail
      refine region_any (by kernel_rfl) (by kernel_rfl) rfl (fun K hK => ?_)
      repeat (first | (refine seqr_skip (by rfl) (fun ρ => by rfl) ?_; (try simp only [Act.put, List.setIfInBounds_toArray, List.set_cons_zero, List.set_cons_succ])) | (refine seqr_pure (v := ?_) (by rfl) (fun ρ => by rfl) (fun ρ w hE hF => ?_) ?_; rotate_left 1; (· ((try simp only [fill, Act.put, List.setIfInBounds_toArray, List.set_cons_zero, List.set_cons_succ]); go_simp; try with_reducible rfl)); (try simp only [Act.put, List.setIfInBounds_toArray, List.set_cons_zero, List.set_cons_succ])) | (refine seqr_call0 (v := ?_) (f := ?_) (args := ?_) (by rfl) (fun ρ => by rfl) (fun ρ w => ?_) (fun w hE => ?_) ?_; rotate_left 3; (· ((try simp only [fill, Act.put, List.setIfInBounds_toArray, List.set_cons_zero, List.set_cons_succ]); go_simp; constructor <;> with_reducible rfl)); (· (with_reducible exact CallE.call (by assumption) hE)); (try simp only [Act.put, List.setIfInBounds_toArray, List.set_cons_zero, List.set_cons_succ])))
      refine seqr_done (fun ρ wN hEN hFN => ?_); (try simp only [fill, Act.put, List.setIfInBounds_toArray, List.set_cons_zero, List.set_cons_succ]); refine (show K _ _ from hK.out _ _ ?_); clear hK K
      go_wp2_with fail
      go_roundw
      case rel => exact ⟨q, p % q, hq, hle.out, rfl, by rw [hxx.out], hgs, hE.trans hEN⟩
      case measure => have := hlt.out; simp [intOf]; omega
def RetR (w : World) (e : Ending) (w' : World) : Prop := ∃ k n : Int, (vr k n { data := #[] } = true ∧ Mant n) ∧ RetV k n { data := #[] } w e w'
theorem vr_o {o : Option Int} (h : ∀ s, o = some s → Mant s) : vr (oK o) (oN o) { data := #[] } = true := by
  cases o with
  | none => rfl
  | some s =>
    have := h s rfl
    unfold Mant at this
    unfold vr oK oN
    simp
    refine ⟨by omega, rfl⟩
theorem ofO_bd (n : Int) : ∀ s, ofO n = some s → Mant s := by
  intro s h
  unfold ofO at h
  split at h
  · cases h; unfold Mant; omega
  · cases h
theorem vr_of (n : Int) : vr (oK (ofO n)) (oN (ofO n)) { data := #[] } = true := vr_o (ofO_bd n)
theorem oN_mant {o : Option Int} (h : ∀ s, o = some s → Mant s) : Mant (oN o) := by
  cases o with
  | none => show Mant 5; unfold Mant; omega
  | some s => exact h s rfl
theorem pr_o {o : Option Int} (h : ∀ s, o = some s → Mant s) : vr (oK o) (oN o) { data := #[] } = true ∧ Mant (oN o) := ⟨vr_o h, oN_mant h⟩
theorem back_r (n : Int) (w : World) : Calls Try.prog 24 #[.int .i64 n] w (RetR w) := (back_any n w).mono fun e w' h => ⟨_, _, pr_o (ofO_bd n), h⟩

def roundO (a b : Int) : Option Int := if b.tdiv 1000000 < -6 ∨ 6 < b.tdiv 1000000 then none else rndO a (10 ^ (6 - b.tdiv 1000000).toNat)
set_option maxHeartbeats 1000000 in
theorem two_round (a b : Int) (w : World) (ha : Mant a) (hb : Mant b) : Calls Try.prog 11 #[.string { data := #[82, 79, 85, 78, 68] }, .int .i64 a, .int .i64 b] w (RetV (oK (roundO a b)) (oN (roundO a b)) { data := #[] } w) := by
  obtain ⟨W, hW, hbW, hRB⟩ := start1 w
  have HW := Lib.hid hW
  have HA := Lib.hid ha
  have HB := Lib.hid hb
  have hsz : W.heap.size = w.heap.size + 1 := by rw [← hW]; simp
  clear hW ha hb
  go_enter Try.func11, Try.ntmps11
  go_wp2_with fail
  rw [HW.out]
  have hin0 : IIn (W.alloc (.cells #[.int .i64 a, .int .i64 b] 2)) (some ⟨W.heap.size, 0, none⟩) 2 [a, b] := iin_new W [a, b]
  have hwh := wholes_any _ 2 2 [a, b] _ hin0 (by omega) (by intro z hz; simp at hz; rcases hz with rfl | rfl; exact HA.out; exact HB.out)
  rw [hsz] at hwh
  refine hwh.mono ?_
  clear hwh hin0
  rintro e w1 ⟨a', cap', rfl, hin, hcp, hb1'⟩
  have hb1 : Ext W w1 := Below.th (below_alloc _ _) hb1'
  obtain ⟨bb, off, rfl, hB, hc⟩ := hin.2 (by simp)
  have hc0 := hc 0 (by simp)
  have hc1 := hc 1 (by simp)
  simp only [List.map_cons, List.getD_cons_zero, List.getD_cons_succ, Nat.add_zero] at hc0 hc1
  obtain ⟨n0, hn0⟩ : ∃ n, a.tdiv 1000000 = n := ⟨_, rfl⟩
  obtain ⟨n1, hn1⟩ : ∃ n, b.tdiv 1000000 = n := ⟨_, rfl⟩
  have hm0 : Mant n0 := by rw [← hn0]; exact tdiv_mant HA.out _ (by omega)
  have hm1 : Mant n1 := by rw [← hn1]; exact tdiv_mant HB.out _ (by omega)
  obtain ⟨p1, p2⟩ := hm0
  obtain ⟨q1, q2⟩ := hm1
  rw [hn0] at hc0
  rw [hn1] at hc1
  have HN0 := Lib.hid hn0
  have HN1 := Lib.hid hn1
  have hcp1 : (2 : Int) ≤ cap' := by simp at hcp; omega
  have l0 : (([a, b].length : Nat) : Int) = 2 := rfl
  rw [show [a, b].length = 2 from rfl]
  clear hn0 hn1 hc hin hb1' hcp
  have hF : roundO a b = if n1 < -6 ∨ 6 < n1 then none else rndO a (10 ^ (6 - n1).toNat) := by rw [← HN1.out]; rfl
  by_cases hr : n1 < -6 ∨ 6 < n1
  · have hf : Hid (roundO a b = none) := by show _ = _; rw [hF, if_pos hr]
    clear hF
    rcases hr with h | h
    · go_wp2_with fail
      refine (vfail_any 5 _).mono ?_
      rintro e w2 ⟨rfl, hb2⟩
      obtain ⟨r0, r1, r2, r3, r4, r5, r6⟩ := hRB.step (hb1.trans hb2)
      go_wp2_with fail
      refine bodyPost_ret (v := .agg #[.int .i64 (4), .int .i64 (5), .string ({ data := #[] })]) (by simp [results, Try.results11, go_sem, *]) rfl ⟨by rw [hf.out]; rfl, below_fillg (Nat.le_refl _) (hbW.th (hb1.trans hb2)) _ _ _⟩
    · have h0 : ¬ n1 < -6 := by omega
      go_wp2_with fail
      refine (vfail_any 5 _).mono ?_
      rintro e w2 ⟨rfl, hb2⟩
      obtain ⟨r0, r1, r2, r3, r4, r5, r6⟩ := hRB.step (hb1.trans hb2)
      go_wp2_with fail
      refine bodyPost_ret (v := .agg #[.int .i64 (4), .int .i64 (5), .string ({ data := #[] })]) (by simp [results, Try.results11, go_sem, *]) rfl ⟨by rw [hf.out]; rfl, below_fillg (Nat.le_refl _) (hbW.th (hb1.trans hb2)) _ _ _⟩
  · obtain ⟨k, hk⟩ : ∃ k : Nat, n1 = 6 - (k : Int) := ⟨(6 - n1).toNat, by omega⟩
    have hk12 : k ≤ 12 := by omega
    have hf : roundO a b = rndO a (10 ^ k) := by rw [hF, if_neg hr, show (6 - n1).toNat = k by omega]
    have hrd := fun w => round_any a n1 k w HA.out hk hk12
    rw [← hf] at hrd
    obtain ⟨K, hK⟩ : ∃ K, oK (roundO a b) = K := ⟨_, rfl⟩
    obtain ⟨N, hN⟩ : ∃ N, oN (roundO a b) = N := ⟨_, rfl⟩
    rw [hK, hN] at hrd
    have HRD := Lib.hid hrd
    have HK := Lib.hid hK
    have HN := Lib.hid hN
    have h1 : ¬ n1 < -6 := by omega
    have h2 : ¬ 6 < n1 := by omega
    clear hrd hK hN hf hk hF hr hk12
    go_wp2_with fail
    refine (HRD.out _).mono ?_
    rintro e w2 ⟨rfl, hb2⟩
    obtain ⟨r0, r1, r2, r3, r4, r5, r6⟩ := hRB.step (hb1.trans hb2)
    go_wp2_with fail
    refine bodyPost_ret (v := .agg #[.int .i64 (K), .int .i64 (N), .string ({ data := #[] })]) (by simp [results, Try.results11, go_sem, *]) rfl ⟨by rw [HK.out, HN.out], below_fillg (Nat.le_refl _) (hbW.th (hb1.trans hb2)) _ _ _⟩
def modV (a b : Int) : Int := if a.tmod b ≠ 0 ∧ (decide (a.tmod b < 0) != decide (b < 0)) = true then a.tmod b + b else a.tmod b
set_option maxHeartbeats 1000000 in
theorem two_mod (a b : Int) (w : World) (ha : Mant a) (hb : Mant b) (h0 : ¬ b = 0) : Calls Try.prog 11 #[.string { data := #[77, 79, 68] }, .int .i64 a, .int .i64 b] w (RetV 1 (modV a b) { data := #[] } w) := by
  obtain ⟨W, hW, hbW, hRB⟩ := start1 w
  have HW := Lib.hid hW
  have HA := Lib.hid ha
  have HB := Lib.hid hb
  have hsz : W.heap.size = w.heap.size + 1 := by rw [← hW]; simp
  clear hW ha hb
  go_enter Try.func11, Try.ntmps11
  go_wp2_with fail
  rw [HW.out]
  have hin0 : IIn (W.alloc (.cells #[.int .i64 a, .int .i64 b] 2)) (some ⟨W.heap.size, 0, none⟩) 2 [a, b] := iin_new W [a, b]
  have hwh := wholes_any _ 2 2 [a, b] _ hin0 (by omega) (by intro z hz; simp at hz; rcases hz with rfl | rfl; exact HA.out; exact HB.out)
  rw [hsz] at hwh
  refine hwh.mono ?_
  clear hwh hin0
  rintro e w1 ⟨a', cap', rfl, hin, hcp, hb1'⟩
  have hb1 : Ext W w1 := Below.th (below_alloc _ _) hb1'
  obtain ⟨bb, off, rfl, hB, hc⟩ := hin.2 (by simp)
  have hc0 := hc 0 (by simp)
  have hc1 := hc 1 (by simp)
  simp only [List.map_cons, List.getD_cons_zero, List.getD_cons_succ, Nat.add_zero] at hc0 hc1
  obtain ⟨n0, hn0⟩ : ∃ n, a.tdiv 1000000 = n := ⟨_, rfl⟩
  obtain ⟨n1, hn1⟩ : ∃ n, b.tdiv 1000000 = n := ⟨_, rfl⟩
  have hm0 : Mant n0 := by rw [← hn0]; exact tdiv_mant HA.out _ (by omega)
  have hm1 : Mant n1 := by rw [← hn1]; exact tdiv_mant HB.out _ (by omega)
  obtain ⟨p1, p2⟩ := hm0
  obtain ⟨q1, q2⟩ := hm1
  rw [hn0] at hc0
  rw [hn1] at hc1
  have HN0 := Lib.hid hn0
  have HN1 := Lib.hid hn1
  have hcp1 : (2 : Int) ≤ cap' := by simp at hcp; omega
  have l0 : (([a, b].length : Nat) : Int) = 2 := rfl
  rw [show [a, b].length = 2 from rfl]
  clear hn0 hn1 hc hin hb1' hcp
  obtain ⟨r, hr⟩ : ∃ r, a.tmod b = r := ⟨_, rfl⟩
  have hV : Hid (modV a b = if r ≠ 0 ∧ (decide (r < 0) != decide (b < 0)) = true then r + b else r) := by show _ = _; rw [← hr]; rfl
  have hbm := HB.out
  have hrb : (b < 0 → b < r ∧ r < -b) ∧ (0 < b → -b < r ∧ r < b) := by
    rw [← hr, tmod_if a b]
    unfold Mant at hbm
    have g1 := Int.emod_nonneg a h0
    have g2 := Int.emod_lt a h0
    have g3 := Int.emod_nonneg (-a) h0
    have g4 := Int.emod_lt (-a) h0
    split <;> omega
  have tb : (b == 0) = false := by simp [h0]
  obtain ⟨b1, b2⟩ := hbm
  obtain ⟨a1, a2⟩ := HA.out
  have HR := Lib.hid hr
  by_cases hr0 : r = 0
  · have hv : Hid (modV a b = r) := by show _ = _; rw [hV.out, if_neg (by simp [hr0])]
    have t0 : (r != 0) = false := by simp [hr0]
    clear hV hr0 hrb
    go_wp2_with fail
    refine (vnum_any _ _).mono ?_
    rintro e w2 ⟨rfl, hb2⟩
    obtain ⟨r0, r1, r2, r3, r4, r5, r6⟩ := hRB.step (hb1.trans hb2)
    go_wp2_with fail
    refine bodyPost_ret (v := .agg #[.int .i64 (1), .int .i64 (r), .string ({ data := #[] })]) (by simp [results, Try.results11, go_sem, *]) rfl ⟨by rw [hv.out], below_fillg (Nat.le_refl _) (hbW.th (hb1.trans hb2)) _ _ _⟩
  · have t0 : (r != 0) = true := by simp [hr0]
    by_cases h1 : r < 0 <;> by_cases h2 : b < 0
    · have hv : Hid (modV a b = r) := by show _ = _; rw [hV.out, if_neg (by simp [hr0, h1, h2])]
      have t1 : decide (r < 0) = true := by simp; omega
      have t2 : decide (b < 0) = true := by simp; omega
      have hrb2 : -9223372036854775807 ≤ r ∧ r ≤ 9223372036854775807 := by omega
      clear hV hr0 hrb
      go_wp2_with fail
      refine (vnum_any _ _).mono ?_
      rintro e w2 ⟨rfl, hb2⟩
      obtain ⟨r0, r1, r2, r3, r4, r5, r6⟩ := hRB.step (hb1.trans hb2)
      go_wp2_with fail
      refine bodyPost_ret (v := .agg #[.int .i64 (1), .int .i64 (r), .string ({ data := #[] })]) (by simp [results, Try.results11, go_sem, *]) rfl ⟨by rw [hv.out], below_fillg (Nat.le_refl _) (hbW.th (hb1.trans hb2)) _ _ _⟩
    · have hv : Hid (modV a b = r + b) := by show _ = _; rw [hV.out, if_pos (by simp [hr0, h1, h2])]
      have t1 : decide (r < 0) = true := by simp; omega
      have t2 : decide (b < 0) = false := by simp; omega
      have hrb2 : -9223372036854775807 ≤ r + b ∧ r + b ≤ 9223372036854775807 := by omega
      clear hV hr0 hrb
      go_wp2_with fail
      refine (vnum_any _ _).mono ?_
      rintro e w2 ⟨rfl, hb2⟩
      obtain ⟨r0, r1, r2, r3, r4, r5, r6⟩ := hRB.step (hb1.trans hb2)
      go_wp2_with fail
      refine bodyPost_ret (v := .agg #[.int .i64 (1), .int .i64 (r + b), .string ({ data := #[] })]) (by simp [results, Try.results11, go_sem, *]) rfl ⟨by rw [hv.out], below_fillg (Nat.le_refl _) (hbW.th (hb1.trans hb2)) _ _ _⟩
    · have hv : Hid (modV a b = r + b) := by show _ = _; rw [hV.out, if_pos (by simp [hr0, h1, h2])]
      have t1 : decide (r < 0) = false := by simp; omega
      have t2 : decide (b < 0) = true := by simp; omega
      have hrb2 : -9223372036854775807 ≤ r + b ∧ r + b ≤ 9223372036854775807 := by omega
      clear hV hr0 hrb
      go_wp2_with fail
      refine (vnum_any _ _).mono ?_
      rintro e w2 ⟨rfl, hb2⟩
      obtain ⟨r0, r1, r2, r3, r4, r5, r6⟩ := hRB.step (hb1.trans hb2)
      go_wp2_with fail
      refine bodyPost_ret (v := .agg #[.int .i64 (1), .int .i64 (r + b), .string ({ data := #[] })]) (by simp [results, Try.results11, go_sem, *]) rfl ⟨by rw [hv.out], below_fillg (Nat.le_refl _) (hbW.th (hb1.trans hb2)) _ _ _⟩
    · have hv : Hid (modV a b = r) := by show _ = _; rw [hV.out, if_neg (by simp [hr0, h1, h2])]
      have t1 : decide (r < 0) = false := by simp; omega
      have t2 : decide (b < 0) = false := by simp; omega
      have hrb2 : -9223372036854775807 ≤ r ∧ r ≤ 9223372036854775807 := by omega
      clear hV hr0 hrb
      go_wp2_with fail
      refine (vnum_any _ _).mono ?_
      rintro e w2 ⟨rfl, hb2⟩
      obtain ⟨r0, r1, r2, r3, r4, r5, r6⟩ := hRB.step (hb1.trans hb2)
      go_wp2_with fail
      refine bodyPost_ret (v := .agg #[.int .i64 (1), .int .i64 (r), .string ({ data := #[] })]) (by simp [results, Try.results11, go_sem, *]) rfl ⟨by rw [hv.out], below_fillg (Nat.le_refl _) (hbW.th (hb1.trans hb2)) _ _ _⟩
theorem two_div0 (nm : ByteArray) (a : Int) : True := trivial
set_option maxHeartbeats 1000000 in
theorem two_mod0 (a b : Int) (w : World) (ha : Mant a) (hb : Mant b) (h0 : b = 0) : Calls Try.prog 11 #[.string { data := #[77, 79, 68] }, .int .i64 a, .int .i64 b] w (RetV 4 1 { data := #[] } w) := by
  obtain ⟨W, hW, hbW, hRB⟩ := start1 w
  have HW := Lib.hid hW
  have HA := Lib.hid ha
  have HB := Lib.hid hb
  have hsz : W.heap.size = w.heap.size + 1 := by rw [← hW]; simp
  clear hW ha hb
  have H0 := Lib.hid h0
  clear h0
  go_enter Try.func11, Try.ntmps11
  go_wp2_with fail
  rw [HW.out]
  have hin0 : IIn (W.alloc (.cells #[.int .i64 a, .int .i64 b] 2)) (some ⟨W.heap.size, 0, none⟩) 2 [a, b] := iin_new W [a, b]
  have hwh := wholes_any _ 2 2 [a, b] _ hin0 (by omega) (by intro z hz; simp at hz; rcases hz with rfl | rfl; exact HA.out; exact HB.out)
  rw [hsz] at hwh
  refine hwh.mono ?_
  clear hwh hin0
  rintro e w1 ⟨a', cap', rfl, hin, hcp, hb1'⟩
  have hb1 : Ext W w1 := Below.th (below_alloc _ _) hb1'
  obtain ⟨bb, off, rfl, hB, hc⟩ := hin.2 (by simp)
  have hc0 := hc 0 (by simp)
  have hc1 := hc 1 (by simp)
  simp only [List.map_cons, List.getD_cons_zero, List.getD_cons_succ, Nat.add_zero] at hc0 hc1
  obtain ⟨n0, hn0⟩ : ∃ n, a.tdiv 1000000 = n := ⟨_, rfl⟩
  obtain ⟨n1, hn1⟩ : ∃ n, b.tdiv 1000000 = n := ⟨_, rfl⟩
  have hm0 : Mant n0 := by rw [← hn0]; exact tdiv_mant HA.out _ (by omega)
  have hm1 : Mant n1 := by rw [← hn1]; exact tdiv_mant HB.out _ (by omega)
  obtain ⟨p1, p2⟩ := hm0
  obtain ⟨q1, q2⟩ := hm1
  rw [hn0] at hc0
  rw [hn1] at hc1
  have HN0 := Lib.hid hn0
  have HN1 := Lib.hid hn1
  have hcp1 : (2 : Int) ≤ cap' := by simp at hcp; omega
  have l0 : (([a, b].length : Nat) : Int) = 2 := rfl
  rw [show [a, b].length = 2 from rfl]
  clear hn0 hn1 hc hin hb1' hcp
  have tb : (b == 0) = true := by simp [H0.out]
  go_wp2_with fail
  refine (vfail_any 1 _).mono ?_
  rintro e w2 ⟨rfl, hb2⟩
  obtain ⟨r0, r1, r2, r3, r4, r5, r6⟩ := hRB.step (hb1.trans hb2)
  go_wp2_with fail
  refine bodyPost_ret (v := .agg #[.int .i64 (4), .int .i64 (1), .string ({ data := #[] })]) (by simp [results, Try.results11, go_sem, *]) rfl ⟨rfl, below_fillg (Nat.le_refl _) (hbW.th (hb1.trans hb2)) _ _ _⟩
set_option maxHeartbeats 1000000 in
theorem two_quot0 (a b : Int) (w : World) (ha : Mant a) (hb : Mant b) (h0 : b = 0) : Calls Try.prog 11 #[.string { data := #[81, 85, 79, 84, 73, 69, 78, 84] }, .int .i64 a, .int .i64 b] w (RetV 4 1 { data := #[] } w) := by
  obtain ⟨W, hW, hbW, hRB⟩ := start1 w
  have HW := Lib.hid hW
  have HA := Lib.hid ha
  have HB := Lib.hid hb
  have hsz : W.heap.size = w.heap.size + 1 := by rw [← hW]; simp
  clear hW ha hb
  have H0 := Lib.hid h0
  clear h0
  go_enter Try.func11, Try.ntmps11
  go_wp2_with fail
  rw [HW.out]
  have hin0 : IIn (W.alloc (.cells #[.int .i64 a, .int .i64 b] 2)) (some ⟨W.heap.size, 0, none⟩) 2 [a, b] := iin_new W [a, b]
  have hwh := wholes_any _ 2 2 [a, b] _ hin0 (by omega) (by intro z hz; simp at hz; rcases hz with rfl | rfl; exact HA.out; exact HB.out)
  rw [hsz] at hwh
  refine hwh.mono ?_
  clear hwh hin0
  rintro e w1 ⟨a', cap', rfl, hin, hcp, hb1'⟩
  have hb1 : Ext W w1 := Below.th (below_alloc _ _) hb1'
  obtain ⟨bb, off, rfl, hB, hc⟩ := hin.2 (by simp)
  have hc0 := hc 0 (by simp)
  have hc1 := hc 1 (by simp)
  simp only [List.map_cons, List.getD_cons_zero, List.getD_cons_succ, Nat.add_zero] at hc0 hc1
  obtain ⟨n0, hn0⟩ : ∃ n, a.tdiv 1000000 = n := ⟨_, rfl⟩
  obtain ⟨n1, hn1⟩ : ∃ n, b.tdiv 1000000 = n := ⟨_, rfl⟩
  have hm0 : Mant n0 := by rw [← hn0]; exact tdiv_mant HA.out _ (by omega)
  have hm1 : Mant n1 := by rw [← hn1]; exact tdiv_mant HB.out _ (by omega)
  obtain ⟨p1, p2⟩ := hm0
  obtain ⟨q1, q2⟩ := hm1
  rw [hn0] at hc0
  rw [hn1] at hc1
  have HN0 := Lib.hid hn0
  have HN1 := Lib.hid hn1
  have hcp1 : (2 : Int) ≤ cap' := by simp at hcp; omega
  have l0 : (([a, b].length : Nat) : Int) = 2 := rfl
  rw [show [a, b].length = 2 from rfl]
  clear hn0 hn1 hc hin hb1' hcp
  have tb : (b == 0) = true := by simp [H0.out]
  go_wp2_with fail
  refine (vfail_any 1 _).mono ?_
  rintro e w2 ⟨rfl, hb2⟩
  obtain ⟨r0, r1, r2, r3, r4, r5, r6⟩ := hRB.step (hb1.trans hb2)
  go_wp2_with fail
  refine bodyPost_ret (v := .agg #[.int .i64 (4), .int .i64 (1), .string ({ data := #[] })]) (by simp [results, Try.results11, go_sem, *]) rfl ⟨rfl, below_fillg (Nat.le_refl _) (hbW.th (hb1.trans hb2)) _ _ _⟩
set_option maxHeartbeats 1000000 in
theorem two_quot (a b : Int) (w : World) (ha : Mant a) (hb : Mant b) (h0 : ¬ b = 0) : Calls Try.prog 11 #[.string { data := #[81, 85, 79, 84, 73, 69, 78, 84] }, .int .i64 a, .int .i64 b] w (RetV (oK (ofO (a.tdiv b))) (oN (ofO (a.tdiv b))) { data := #[] } w) := by
  obtain ⟨W, hW, hbW, hRB⟩ := start1 w
  have HW := Lib.hid hW
  have HA := Lib.hid ha
  have HB := Lib.hid hb
  have hsz : W.heap.size = w.heap.size + 1 := by rw [← hW]; simp
  clear hW ha hb
  go_enter Try.func11, Try.ntmps11
  go_wp2_with fail
  rw [HW.out]
  have hin0 : IIn (W.alloc (.cells #[.int .i64 a, .int .i64 b] 2)) (some ⟨W.heap.size, 0, none⟩) 2 [a, b] := iin_new W [a, b]
  have hwh := wholes_any _ 2 2 [a, b] _ hin0 (by omega) (by intro z hz; simp at hz; rcases hz with rfl | rfl; exact HA.out; exact HB.out)
  rw [hsz] at hwh
  refine hwh.mono ?_
  clear hwh hin0
  rintro e w1 ⟨a', cap', rfl, hin, hcp, hb1'⟩
  have hb1 : Ext W w1 := Below.th (below_alloc _ _) hb1'
  obtain ⟨bb, off, rfl, hB, hc⟩ := hin.2 (by simp)
  have hc0 := hc 0 (by simp)
  have hc1 := hc 1 (by simp)
  simp only [List.map_cons, List.getD_cons_zero, List.getD_cons_succ, Nat.add_zero] at hc0 hc1
  obtain ⟨n0, hn0⟩ : ∃ n, a.tdiv 1000000 = n := ⟨_, rfl⟩
  obtain ⟨n1, hn1⟩ : ∃ n, b.tdiv 1000000 = n := ⟨_, rfl⟩
  have hm0 : Mant n0 := by rw [← hn0]; exact tdiv_mant HA.out _ (by omega)
  have hm1 : Mant n1 := by rw [← hn1]; exact tdiv_mant HB.out _ (by omega)
  obtain ⟨p1, p2⟩ := hm0
  obtain ⟨q1, q2⟩ := hm1
  rw [hn0] at hc0
  rw [hn1] at hc1
  have HN0 := Lib.hid hn0
  have HN1 := Lib.hid hn1
  have hcp1 : (2 : Int) ≤ cap' := by simp at hcp; omega
  have l0 : (([a, b].length : Nat) : Int) = 2 := rfl
  rw [show [a, b].length = 2 from rfl]
  clear hn0 hn1 hc hin hb1' hcp
  have tb : (b == 0) = false := by simp [h0]
  obtain ⟨q, hq⟩ : ∃ q, a.tdiv b = q := ⟨_, rfl⟩
  have hqm : -9223372036854775807 ≤ q ∧ q ≤ 9223372036854775807 := by
    have h3 : q.natAbs ≤ a.natAbs := by rw [← hq, Int.natAbs_tdiv]; exact Nat.div_le_self _ _
    have := HA.out
    unfold Mant at this
    omega
  have hbk := fun w => back_any q w
  obtain ⟨K, hK⟩ : ∃ K, oK (ofO q) = K := ⟨_, rfl⟩
  obtain ⟨N, hN⟩ : ∃ N, oN (ofO q) = N := ⟨_, rfl⟩
  rw [hK, hN] at hbk
  have HBK := Lib.hid hbk
  have HK : Hid (oK (ofO (a.tdiv b)) = K) := by show _ = _; rw [hq, hK]
  have HN : Hid (oN (ofO (a.tdiv b)) = N) := by show _ = _; rw [hq, hN]
  obtain ⟨a1, a2⟩ := HA.out
  obtain ⟨b1, b2⟩ := HB.out
  have rq : IntKind.i64.wrap q = q := by rw [IntKind.wrap_i64]; omega
  clear hbk hK hN
  go_wp2_with fail
  refine (HBK.out _).mono ?_
  rintro e w2 ⟨rfl, hb2⟩
  obtain ⟨r0, r1, r2, r3, r4, r5, r6⟩ := hRB.step (hb1.trans hb2)
  go_wp2_with fail
  refine bodyPost_ret (v := .agg #[.int .i64 (K), .int .i64 (N), .string ({ data := #[] })]) (by simp [results, Try.results11, go_sem, *]) rfl ⟨by rw [HK.out, HN.out], below_fillg (Nat.le_refl _) (hbW.th (hb1.trans hb2)) _ _ _⟩
def powB (a b : Int) : Option Int := if b.tmod 1000000 ≠ 0 ∨ b.tdiv 1000000 < 0 ∨ 64 < b.tdiv 1000000 then none else powO a (b.tdiv 1000000).toNat
set_option maxHeartbeats 1000000 in
theorem two_power (a b : Int) (w : World) (ha : Mant a) (hb : Mant b) : Calls Try.prog 11 #[.string { data := #[80, 79, 87, 69, 82] }, .int .i64 a, .int .i64 b] w (RetV (oK (powB a b)) (oN (powB a b)) { data := #[] } w) := by
  obtain ⟨W, hW, hbW, hRB⟩ := start1 w
  have HW := Lib.hid hW
  have HA := Lib.hid ha
  have HB := Lib.hid hb
  have hsz : W.heap.size = w.heap.size + 1 := by rw [← hW]; simp
  clear hW ha hb
  go_enter Try.func11, Try.ntmps11
  go_wp2_with fail
  rw [HW.out]
  have hin0 : IIn (W.alloc (.cells #[.int .i64 a, .int .i64 b] 2)) (some ⟨W.heap.size, 0, none⟩) 2 [a, b] := iin_new W [a, b]
  have hwh := wholes_any _ 2 2 [a, b] _ hin0 (by omega) (by intro z hz; simp at hz; rcases hz with rfl | rfl; exact HA.out; exact HB.out)
  rw [hsz] at hwh
  refine hwh.mono ?_
  clear hwh hin0
  rintro e w1 ⟨a', cap', rfl, hin, hcp, hb1'⟩
  have hb1 : Ext W w1 := Below.th (below_alloc _ _) hb1'
  obtain ⟨bb, off, rfl, hB, hc⟩ := hin.2 (by simp)
  have hc0 := hc 0 (by simp)
  have hc1 := hc 1 (by simp)
  simp only [List.map_cons, List.getD_cons_zero, List.getD_cons_succ, Nat.add_zero] at hc0 hc1
  obtain ⟨n0, hn0⟩ : ∃ n, a.tdiv 1000000 = n := ⟨_, rfl⟩
  obtain ⟨n1, hn1⟩ : ∃ n, b.tdiv 1000000 = n := ⟨_, rfl⟩
  have hm0 : Mant n0 := by rw [← hn0]; exact tdiv_mant HA.out _ (by omega)
  have hm1 : Mant n1 := by rw [← hn1]; exact tdiv_mant HB.out _ (by omega)
  obtain ⟨p1, p2⟩ := hm0
  obtain ⟨q1, q2⟩ := hm1
  rw [hn0] at hc0
  rw [hn1] at hc1
  have HN0 := Lib.hid hn0
  have HN1 := Lib.hid hn1
  have hcp1 : (2 : Int) ≤ cap' := by simp at hcp; omega
  have l0 : (([a, b].length : Nat) : Int) = 2 := rfl
  rw [show [a, b].length = 2 from rfl]
  clear hn0 hn1 hc hin hb1' hcp
  obtain ⟨r, hr⟩ : ∃ r, b.tmod 1000000 = r := ⟨_, rfl⟩
  obtain ⟨b1, b2⟩ := HB.out
  have hF : powB a b = if r ≠ 0 ∨ n1 < 0 ∨ 64 < n1 then none else powO a n1.toNat := by rw [← HN1.out, ← hr]; rfl
  by_cases hc : r ≠ 0 ∨ n1 < 0 ∨ 64 < n1
  · have hf : Hid (powB a b = none) := by show _ = _; rw [hF, if_pos hc]
    clear hF
    by_cases h1 : r = 0
    · have t1 : (r != 0) = false := by simp [h1]
      by_cases h2 : n1 < 0
      · clear hc h1
        go_wp2_with fail
        refine (vfail_any 5 _).mono ?_
        rintro e w2 ⟨rfl, hb2⟩
        obtain ⟨r0, r1, r2, r3, r4, r5, r6⟩ := hRB.step (hb1.trans hb2)
        go_wp2_with fail
        refine bodyPost_ret (v := .agg #[.int .i64 (4), .int .i64 (5), .string ({ data := #[] })]) (by simp [results, Try.results11, go_sem, *]) rfl ⟨by rw [hf.out]; rfl, below_fillg (Nat.le_refl _) (hbW.th (hb1.trans hb2)) _ _ _⟩
      · have h3 : 64 < n1 := by rcases hc with h | h | h; exact absurd h1 h; exact absurd h h2; exact h
        clear hc h1
        go_wp2_with fail
        refine (vfail_any 5 _).mono ?_
        rintro e w2 ⟨rfl, hb2⟩
        obtain ⟨r0, r1, r2, r3, r4, r5, r6⟩ := hRB.step (hb1.trans hb2)
        go_wp2_with fail
        refine bodyPost_ret (v := .agg #[.int .i64 (4), .int .i64 (5), .string ({ data := #[] })]) (by simp [results, Try.results11, go_sem, *]) rfl ⟨by rw [hf.out]; rfl, below_fillg (Nat.le_refl _) (hbW.th (hb1.trans hb2)) _ _ _⟩
    · have t1 : (r != 0) = true := by simp [h1]
      clear hc h1
      go_wp2_with fail
      refine (vfail_any 5 _).mono ?_
      rintro e w2 ⟨rfl, hb2⟩
      obtain ⟨r0, r1, r2, r3, r4, r5, r6⟩ := hRB.step (hb1.trans hb2)
      go_wp2_with fail
      refine bodyPost_ret (v := .agg #[.int .i64 (4), .int .i64 (5), .string ({ data := #[] })]) (by simp [results, Try.results11, go_sem, *]) rfl ⟨by rw [hf.out]; rfl, below_fillg (Nat.le_refl _) (hbW.th (hb1.trans hb2)) _ _ _⟩
  · have t1 : (r != 0) = false := by simp; omega
    obtain ⟨k, rfl⟩ : ∃ k : Nat, n1 = k := ⟨n1.toNat, by omega⟩
    have hk : k ≤ 64 := by omega
    have hf : powB a b = powO a k := by rw [hF, if_neg hc, Int.toNat_natCast]
    have hpw := fun w => power_any a k w HA.out hk
    rw [← hf] at hpw
    obtain ⟨K, hK⟩ : ∃ K, oK (powB a b) = K := ⟨_, rfl⟩
    obtain ⟨N, hN⟩ : ∃ N, oN (powB a b) = N := ⟨_, rfl⟩
    rw [hK, hN] at hpw
    have HPW := Lib.hid hpw
    have HK := Lib.hid hK
    have HN := Lib.hid hN
    clear hc hF hf hpw hK hN
    go_wp2_with fail
    refine (HPW.out _).mono ?_
    rintro e w2 ⟨rfl, hb2⟩
    obtain ⟨r0, r1, r2, r3, r4, r5, r6⟩ := hRB.step (hb1.trans hb2)
    go_wp2_with fail
    refine bodyPost_ret (v := .agg #[.int .i64 (K), .int .i64 (N), .string ({ data := #[] })]) (by simp [results, Try.results11, go_sem, *]) rfl ⟨by rw [HK.out, HN.out], below_fillg (Nat.le_refl _) (hbW.th (hb1.trans hb2)) _ _ _⟩
theorem two_hyp : True := trivial
set_option maxHeartbeats 1000000 in
theorem two_other (s : ByteArray) (a b : Int) (w : World) (ha : Mant a) (hb : Mant b) (t1 : (s.toList == [82, 79, 85, 78, 68]) = false) (t2 : (s.toList == [77, 79, 68]) = false) (t3 : (s.toList == [80, 79, 87, 69, 82]) = false) (t4 : (s.toList == [81, 85, 79, 84, 73, 69, 78, 84]) = false) (t5 : (s.toList == [71, 67, 68]) = false) (t6 : (s.toList == [76, 67, 77]) = false) : Calls Try.prog 11 #[.string s, .int .i64 a, .int .i64 b] w (RetV 4 2 { data := #[] } w) := by
  obtain ⟨W, hW, hbW, hRB⟩ := start1 w
  have HW := Lib.hid hW
  have HA := Lib.hid ha
  have HB := Lib.hid hb
  have hsz : W.heap.size = w.heap.size + 1 := by rw [← hW]; simp
  clear hW ha hb
  go_enter Try.func11, Try.ntmps11
  go_wp2_with fail
  rw [HW.out]
  have hin0 : IIn (W.alloc (.cells #[.int .i64 a, .int .i64 b] 2)) (some ⟨W.heap.size, 0, none⟩) 2 [a, b] := iin_new W [a, b]
  have hwh := wholes_any _ 2 2 [a, b] _ hin0 (by omega) (by intro z hz; simp at hz; rcases hz with rfl | rfl; exact HA.out; exact HB.out)
  rw [hsz] at hwh
  refine hwh.mono ?_
  clear hwh hin0
  rintro e w1 ⟨a', cap', rfl, hin, hcp, hb1'⟩
  have hb1 : Ext W w1 := Below.th (below_alloc _ _) hb1'
  obtain ⟨bb, off, rfl, hB, hc⟩ := hin.2 (by simp)
  have hc0 := hc 0 (by simp)
  have hc1 := hc 1 (by simp)
  simp only [List.map_cons, List.getD_cons_zero, List.getD_cons_succ, Nat.add_zero] at hc0 hc1
  obtain ⟨n0, hn0⟩ : ∃ n, a.tdiv 1000000 = n := ⟨_, rfl⟩
  obtain ⟨n1, hn1⟩ : ∃ n, b.tdiv 1000000 = n := ⟨_, rfl⟩
  have hm0 : Mant n0 := by rw [← hn0]; exact tdiv_mant HA.out _ (by omega)
  have hm1 : Mant n1 := by rw [← hn1]; exact tdiv_mant HB.out _ (by omega)
  obtain ⟨p1, p2⟩ := hm0
  obtain ⟨q1, q2⟩ := hm1
  rw [hn0] at hc0
  rw [hn1] at hc1
  have HN0 := Lib.hid hn0
  have HN1 := Lib.hid hn1
  have hcp1 : (2 : Int) ≤ cap' := by simp at hcp; omega
  have l0 : (([a, b].length : Nat) : Int) = 2 := rfl
  rw [show [a, b].length = 2 from rfl]
  clear hn0 hn1 hc hin hb1' hcp
  go_wp2_with fail
  refine (vfail_any 2 _).mono ?_
  rintro e w2 ⟨rfl, hb2⟩
  obtain ⟨r0, r1, r2, r3, r4, r5, r6⟩ := hRB.step (hb1.trans hb2)
  go_wp2_with fail
  refine bodyPost_ret (v := .agg #[.int .i64 (4), .int .i64 (2), .string ({ data := #[] })]) (by simp [results, Try.results11, go_sem, *]) rfl ⟨rfl, below_fillg (Nat.le_refl _) (hbW.th (hb1.trans hb2)) _ _ _⟩
set_option maxHeartbeats 1000000 in
theorem two_gcd (a b : Int) (w : World) (ha : Mant a) (hb : Mant b) : Calls Try.prog 11 #[.string { data := #[71, 67, 68] }, .int .i64 a, .int .i64 b] w (RetR w) := by
  obtain ⟨W, hW, hbW, hRB⟩ := start1 w
  have HW := Lib.hid hW
  have HA := Lib.hid ha
  have HB := Lib.hid hb
  have hsz : W.heap.size = w.heap.size + 1 := by rw [← hW]; simp
  clear hW ha hb
  go_enter Try.func11, Try.ntmps11
  go_wp2_with fail
  rw [HW.out]
  have hin0 : IIn (W.alloc (.cells #[.int .i64 a, .int .i64 b] 2)) (some ⟨W.heap.size, 0, none⟩) 2 [a, b] := iin_new W [a, b]
  have hwh := wholes_any _ 2 2 [a, b] _ hin0 (by omega) (by intro z hz; simp at hz; rcases hz with rfl | rfl; exact HA.out; exact HB.out)
  rw [hsz] at hwh
  refine hwh.mono ?_
  clear hwh hin0
  rintro e w1 ⟨a', cap', rfl, hin, hcp, hb1'⟩
  have hb1 : Ext W w1 := Below.th (below_alloc _ _) hb1'
  obtain ⟨bb, off, rfl, hB, hc⟩ := hin.2 (by simp)
  have hc0 := hc 0 (by simp)
  have hc1 := hc 1 (by simp)
  simp only [List.map_cons, List.getD_cons_zero, List.getD_cons_succ, Nat.add_zero] at hc0 hc1
  obtain ⟨n0, hn0⟩ : ∃ n, a.tdiv 1000000 = n := ⟨_, rfl⟩
  obtain ⟨n1, hn1⟩ : ∃ n, b.tdiv 1000000 = n := ⟨_, rfl⟩
  have hm0 : Mant n0 := by rw [← hn0]; exact tdiv_mant HA.out _ (by omega)
  have hm1 : Mant n1 := by rw [← hn1]; exact tdiv_mant HB.out _ (by omega)
  obtain ⟨p1, p2⟩ := hm0
  obtain ⟨q1, q2⟩ := hm1
  rw [hn0] at hc0
  rw [hn1] at hc1
  have HN0 := Lib.hid hn0
  have HN1 := Lib.hid hn1
  have hcp1 : (2 : Int) ≤ cap' := by simp at hcp; omega
  have l0 : (([a, b].length : Nat) : Int) = 2 := rfl
  rw [show [a, b].length = 2 from rfl]
  clear hn0 hn1 hc hin hb1' hcp
  by_cases hr : n0 < 0 ∨ n1 < 0
  · by_cases h0 : n0 < 0
    · clear hr
      go_wp2_with fail
      refine (vfail_any 5 _).mono ?_
      rintro e w2 ⟨rfl, hb2⟩
      obtain ⟨r0, r1, r2, r3, r4, r5, r6⟩ := hRB.step (hb1.trans hb2)
      go_wp2_with fail
      refine bodyPost_ret (v := .agg #[.int .i64 4, .int .i64 5, .string { data := #[] }]) (by simp [results, Try.results11, go_sem, *]) rfl ⟨4, 5, ⟨rfl, by unfold Mant; omega⟩, rfl, below_fillg (Nat.le_refl _) (hbW.th (hb1.trans hb2)) _ _ _⟩
    · have h1 : n1 < 0 := by omega
      clear hr
      go_wp2_with fail
      refine (vfail_any 5 _).mono ?_
      rintro e w2 ⟨rfl, hb2⟩
      obtain ⟨r0, r1, r2, r3, r4, r5, r6⟩ := hRB.step (hb1.trans hb2)
      go_wp2_with fail
      refine bodyPost_ret (v := .agg #[.int .i64 4, .int .i64 5, .string { data := #[] }]) (by simp [results, Try.results11, go_sem, *]) rfl ⟨4, 5, ⟨rfl, by unfold Mant; omega⟩, rfl, below_fillg (Nat.le_refl _) (hbW.th (hb1.trans hb2)) _ _ _⟩
  · obtain ⟨x, rfl⟩ : ∃ x : Nat, n0 = x := ⟨n0.toNat, by omega⟩
    obtain ⟨y, rfl⟩ : ∃ y : Nat, n1 = y := ⟨n1.toNat, by omega⟩
    have e1 : CallE Try.prog w1 25 #[.int .i64 (x : Int), .int .i64 (y : Int)] (.int .i64 (Nat.gcd x y : Nat)) := fun w _ => gcd_any x y w (by omega) (by omega)
    obtain ⟨g, hg⟩ : ∃ g, Nat.gcd x y = g := ⟨_, rfl⟩
    rw [hg] at e1
    have hd0 := ext_cell hB hc0
    have hd1 := ext_cell hB hc1
    have HG := Lib.hid hg
    clear hr hg
    go_wp2_with fail
    refine region_any (by kernel_rfl) (by kernel_rfl) rfl (fun K hK => ?_)
    repeat (first | (refine seqr_skip (by rfl) (fun ρ => by rfl) ?_; (try simp only [Act.put, List.setIfInBounds_toArray, List.set_cons_zero, List.set_cons_succ])) | (refine seqr_pure (v := ?_) (by rfl) (fun ρ => by rfl) (fun ρ w hE hF => ?_) ?_; rotate_left 1; (· ((try simp only [fill, Act.put, List.setIfInBounds_toArray, List.set_cons_zero, List.set_cons_succ]); go_simp; try with_reducible rfl)); (try simp only [Act.put, List.setIfInBounds_toArray, List.set_cons_zero, List.set_cons_succ])) | (refine seqr_call0 (v := ?_) (f := ?_) (args := ?_) (by rfl) (fun ρ => by rfl) (fun ρ w => ?_) (fun w hE => ?_) ?_; rotate_left 3; (· ((try simp only [fill, Act.put, List.setIfInBounds_toArray, List.set_cons_zero, List.set_cons_succ]); go_simp; constructor <;> with_reducible rfl)); (· (with_reducible exact CallE.call (by assumption) hE)); (try simp only [Act.put, List.setIfInBounds_toArray, List.set_cons_zero, List.set_cons_succ])))
    refine seqr_done (fun ρ wN hEN hFN => ?_); (try simp only [fill, Act.put, List.setIfInBounds_toArray, List.set_cons_zero, List.set_cons_succ]); refine (show K _ _ from hK.out _ _ ?_); clear hK K
    have f0 := hd0 _ hEN
    have f1 := hd1 _ hEN
    have hE2 : Ext W wN := hb1.trans hEN
    clear hd0 hd1 e1 hc0 hc1
    go_wp2_with fail
    refine (back_r _ _).mono ?_
    rintro e w2 ⟨k, n, hv, rfl, hb2⟩
    have HV := Lib.hid hv
    clear hv
    obtain ⟨r0, r1, r2, r3, r4, r5, r6⟩ := hRB.step (hE2.trans hb2)
    go_wp2_with fail
    refine bodyPost_ret (v := .agg #[.int .i64 k, .int .i64 n, .string { data := #[] }]) (by simp [results, Try.results11, go_sem, *]) rfl ⟨k, n, HV.out, rfl, below_fillg (Nat.le_refl _) (hbW.th (hE2.trans hb2)) _ _ _⟩
set_option maxHeartbeats 1000000 in
theorem two_lcm (a b : Int) (w : World) (ha : Mant a) (hb : Mant b) : Calls Try.prog 11 #[.string { data := #[76, 67, 77] }, .int .i64 a, .int .i64 b] w (RetR w) := by
  obtain ⟨W, hW, hbW, hRB⟩ := start1 w
  have HW := Lib.hid hW
  have HA := Lib.hid ha
  have HB := Lib.hid hb
  have hsz : W.heap.size = w.heap.size + 1 := by rw [← hW]; simp
  clear hW ha hb
  go_enter Try.func11, Try.ntmps11
  go_wp2_with fail
  rw [HW.out]
  have hin0 : IIn (W.alloc (.cells #[.int .i64 a, .int .i64 b] 2)) (some ⟨W.heap.size, 0, none⟩) 2 [a, b] := iin_new W [a, b]
  have hwh := wholes_any _ 2 2 [a, b] _ hin0 (by omega) (by intro z hz; simp at hz; rcases hz with rfl | rfl; exact HA.out; exact HB.out)
  rw [hsz] at hwh
  refine hwh.mono ?_
  clear hwh hin0
  rintro e w1 ⟨a', cap', rfl, hin, hcp, hb1'⟩
  have hb1 : Ext W w1 := Below.th (below_alloc _ _) hb1'
  obtain ⟨bb, off, rfl, hB, hc⟩ := hin.2 (by simp)
  have hc0 := hc 0 (by simp)
  have hc1 := hc 1 (by simp)
  simp only [List.map_cons, List.getD_cons_zero, List.getD_cons_succ, Nat.add_zero] at hc0 hc1
  obtain ⟨n0, hn0⟩ : ∃ n, a.tdiv 1000000 = n := ⟨_, rfl⟩
  obtain ⟨n1, hn1⟩ : ∃ n, b.tdiv 1000000 = n := ⟨_, rfl⟩
  have hm0 : Mant n0 := by rw [← hn0]; exact tdiv_mant HA.out _ (by omega)
  have hm1 : Mant n1 := by rw [← hn1]; exact tdiv_mant HB.out _ (by omega)
  obtain ⟨p1, p2⟩ := hm0
  obtain ⟨q1, q2⟩ := hm1
  rw [hn0] at hc0
  rw [hn1] at hc1
  have HN0 := Lib.hid hn0
  have HN1 := Lib.hid hn1
  have hcp1 : (2 : Int) ≤ cap' := by simp at hcp; omega
  have l0 : (([a, b].length : Nat) : Int) = 2 := rfl
  rw [show [a, b].length = 2 from rfl]
  clear hn0 hn1 hc hin hb1' hcp
  by_cases hr : n0 < 0 ∨ n1 < 0
  · by_cases h0 : n0 < 0
    · clear hr
      go_wp2_with fail
      refine (vfail_any 5 _).mono ?_
      rintro e w2 ⟨rfl, hb2⟩
      obtain ⟨r0, r1, r2, r3, r4, r5, r6⟩ := hRB.step (hb1.trans hb2)
      go_wp2_with fail
      refine bodyPost_ret (v := .agg #[.int .i64 4, .int .i64 5, .string { data := #[] }]) (by simp [results, Try.results11, go_sem, *]) rfl ⟨4, 5, ⟨rfl, by unfold Mant; omega⟩, rfl, below_fillg (Nat.le_refl _) (hbW.th (hb1.trans hb2)) _ _ _⟩
    · have h1 : n1 < 0 := by omega
      clear hr
      go_wp2_with fail
      refine (vfail_any 5 _).mono ?_
      rintro e w2 ⟨rfl, hb2⟩
      obtain ⟨r0, r1, r2, r3, r4, r5, r6⟩ := hRB.step (hb1.trans hb2)
      go_wp2_with fail
      refine bodyPost_ret (v := .agg #[.int .i64 4, .int .i64 5, .string { data := #[] }]) (by simp [results, Try.results11, go_sem, *]) rfl ⟨4, 5, ⟨rfl, by unfold Mant; omega⟩, rfl, below_fillg (Nat.le_refl _) (hbW.th (hb1.trans hb2)) _ _ _⟩
  · obtain ⟨x, rfl⟩ : ∃ x : Nat, n0 = x := ⟨n0.toNat, by omega⟩
    obtain ⟨y, rfl⟩ : ∃ y : Nat, n1 = y := ⟨n1.toNat, by omega⟩
    have e1 : CallE Try.prog w1 25 #[.int .i64 (x : Int), .int .i64 (y : Int)] (.int .i64 (Nat.gcd x y : Nat)) := fun w _ => gcd_any x y w (by omega) (by omega)
    obtain ⟨g, hg⟩ : ∃ g, Nat.gcd x y = g := ⟨_, rfl⟩
    rw [hg] at e1
    have hd0 := ext_cell hB hc0
    have hd1 := ext_cell hB hc1
    have HG := Lib.hid hg
    clear hr hg
    go_wp2_with fail
    refine region_any (by kernel_rfl) (by kernel_rfl) rfl (fun K hK => ?_)
    repeat (first | (refine seqr_skip (by rfl) (fun ρ => by rfl) ?_; (try simp only [Act.put, List.setIfInBounds_toArray, List.set_cons_zero, List.set_cons_succ])) | (refine seqr_pure (v := ?_) (by rfl) (fun ρ => by rfl) (fun ρ w hE hF => ?_) ?_; rotate_left 1; (· ((try simp only [fill, Act.put, List.setIfInBounds_toArray, List.set_cons_zero, List.set_cons_succ]); go_simp; try with_reducible rfl)); (try simp only [Act.put, List.setIfInBounds_toArray, List.set_cons_zero, List.set_cons_succ])) | (refine seqr_call0 (v := ?_) (f := ?_) (args := ?_) (by rfl) (fun ρ => by rfl) (fun ρ w => ?_) (fun w hE => ?_) ?_; rotate_left 3; (· ((try simp only [fill, Act.put, List.setIfInBounds_toArray, List.set_cons_zero, List.set_cons_succ]); go_simp; constructor <;> with_reducible rfl)); (· (with_reducible exact CallE.call (by assumption) hE)); (try simp only [Act.put, List.setIfInBounds_toArray, List.set_cons_zero, List.set_cons_succ])))
    refine seqr_done (fun ρ wN hEN hFN => ?_); (try simp only [fill, Act.put, List.setIfInBounds_toArray, List.set_cons_zero, List.set_cons_succ]); refine (show K _ _ from hK.out _ _ ?_); clear hK K
    have f0 := hd0 _ hEN
    have f1 := hd1 _ hEN
    have hE2 : Ext W wN := hb1.trans hEN
    clear hd0 hd1 e1 hc0 hc1
    by_cases hg0 : g = 0
    · have t0 : ((g : Int) == 0) = true := by simp [hg0]
      clear hg0
      go_wp2_with fail
      refine (back_r _ _).mono ?_
      rintro e w2 ⟨k, n, hv, rfl, hb2⟩
      have HV := Lib.hid hv
      clear hv
      obtain ⟨r0, r1, r2, r3, r4, r5, r6⟩ := hRB.step (hE2.trans hb2)
      go_wp2_with fail
      refine bodyPost_ret (v := .agg #[.int .i64 k, .int .i64 n, .string { data := #[] }]) (by simp [results, Try.results11, go_sem, *]) rfl ⟨k, n, HV.out, rfl, below_fillg (Nat.le_refl _) (hbW.th (hE2.trans hb2)) _ _ _⟩
    · have t0 : ((g : Int) == 0) = false := by simp; omega
      obtain ⟨h, hh⟩ : ∃ h, (x : Int) / (g : Int) = h := ⟨_, rfl⟩
      have hh2 : (x : Int).tdiv (g : Int) = h := by rw [Int.tdiv_eq_ediv_of_nonneg (by omega), hh]
      have hhb : 0 ≤ h ∧ h ≤ 9223372036854775807 := by
        rw [← hh]
        have h1 := Int.ediv_nonneg (a := (x : Int)) (b := (g : Int)) (by omega) (by omega)
        have h2 := Int.ediv_le_self (a := (x : Int)) (g : Int) (by omega)
        omega
      have hx0 : (0 : Int) ≤ x := by omega
      have hg1 : (1 : Int) ≤ g := by omega
      by_cases hy0 : y = 0
      · have t1 : ((y : Int) != 0) = false := by simp [hy0]
        clear hy0
        go_wp2_with fail
        refine (back_r _ _).mono ?_
        rintro e w2 ⟨k, n, hv, rfl, hb2⟩
        have HV := Lib.hid hv
        clear hv
        obtain ⟨r0, r1, r2, r3, r4, r5, r6⟩ := hRB.step (hE2.trans hb2)
        go_wp2_with fail
        refine bodyPost_ret (v := .agg #[.int .i64 k, .int .i64 n, .string { data := #[] }]) (by simp [results, Try.results11, go_sem, *]) rfl ⟨k, n, HV.out, rfl, below_fillg (Nat.le_refl _) (hbW.th (hE2.trans hb2)) _ _ _⟩
      · have t1 : ((y : Int) != 0) = true := by simp; omega
        have hy1 : (1 : Int) ≤ y := by omega
        obtain ⟨m, hm⟩ : ∃ m, (9223372036854 : Int) / (y : Int) = m := ⟨_, rfl⟩
        have hmb : 0 ≤ m ∧ m ≤ 9223372036854 := by
          rw [← hm]
          have h1 := Int.ediv_nonneg (a := 9223372036854) (b := (y : Int)) (by omega) (by omega)
          have h2 := Int.ediv_le_self (a := 9223372036854) (y : Int) (by omega)
          omega
        by_cases hmh : m < h
        · go_wp2_with fail
          refine (vfail_any 5 _).mono ?_
          rintro e w2 ⟨rfl, hb2⟩
          obtain ⟨r0, r1, r2, r3, r4, r5, r6⟩ := hRB.step (hE2.trans hb2)
          go_wp2_with fail
          refine bodyPost_ret (v := .agg #[.int .i64 4, .int .i64 5, .string { data := #[] }]) (by simp [results, Try.results11, go_sem, *]) rfl ⟨4, 5, ⟨rfl, by unfold Mant; omega⟩, rfl, below_fillg (Nat.le_refl _) (hbW.th (hE2.trans hb2)) _ _ _⟩
        · go_wp2_with fail
          refine (back_r _ _).mono ?_
          rintro e w2 ⟨k, n, hv, rfl, hb2⟩
          have HV := Lib.hid hv
          clear hv
          obtain ⟨r0, r1, r2, r3, r4, r5, r6⟩ := hRB.step (hE2.trans hb2)
          go_wp2_with fail
          refine bodyPost_ret (v := .agg #[.int .i64 k, .int .i64 n, .string { data := #[] }]) (by simp [results, Try.results11, go_sem, *]) rfl ⟨k, n, HV.out, rfl, below_fillg (Nat.le_refl _) (hbW.th (hE2.trans hb2)) _ _ _⟩
end Go.Proofs.Ytiddefbjnhhiiaa
