/-
  maths: One: walks. Conditions: each theorem's own.
-/
import Derived.Test.YtiddefbjnhhiiaaMathsB
namespace Go.Proofs.Ytiddefbjnhhiiaa
open Go.RowKit Num
set_option linter.unusedVariables false
set_option linter.unusedSimpArgs false

def absV (a : Int) : Int := if a < 0 then -a else a
def sgnV (a : Int) : Int := if a < 0 then -1 else if a = 0 then 0 else 1
def floO (a : Int) : Option Int := if -9223372036854775807 ≤ a - a % 1000000 then some (a - a % 1000000) else none
theorem floor_open {a : Int} (ha : Mant a) {w w' : World} {e : Ending} (h : FloorPost a w e w') : ∃ V B, e = .returned (.tuple #[.int .i64 V, .bool B]) ∧ foldEnd (floO a) (.int .i64 V) (.bool B) ∧ w = w' := by
  obtain ⟨h1, h2, rfl⟩ := h
  by_cases h : -9223372036854775807 ≤ a - a % 1000000
  · exact ⟨_, _, h1 h, .inl ⟨_, if_pos h, ⟨h, by have := ha.2; omega⟩, rfl, rfl⟩, rfl⟩
  · obtain ⟨c, he⟩ := h2 (by omega)
    exact ⟨_, _, he, .inr ⟨if_neg h, _, rfl, rfl⟩, rfl⟩

set_option maxHeartbeats 800000 in
theorem one_abs (a : Int) (w : World) (ha : Mant a) : Calls Try.prog 14 #[.string { data := #[65, 66, 83] }, .int .i64 a] w (RetV 1 (absV a) { data := #[] } w) := by
  obtain ⟨W, hW, hbW, hRB⟩ := start1 w
  have HW := Lib.hid hW
  obtain ⟨a1, a2⟩ := ha
  clear hW
  have h1 : Hid (a < -a → -a = absV a) := by (show _ → _; intro h; unfold absV; rw [if_pos (by omega)])
  have h2 : Hid (-a ≤ a → a = absV a) := by (show _ → _; intro h; unfold absV; split <;> omega)
  go_enter Try.func14, Try.ntmps14
  go_wp2_with fail
  all_goals rw [HW.out]
  all_goals refine (vnum_any _ _).mono ?_
  all_goals rintro e w1 ⟨rfl, hb1⟩
  · obtain ⟨r0, r1, r2, r3, r4, r5, r6⟩ := hRB.step hb1
    have e1 := Lib.hid (h1.out (by assumption))
    go_wp2_with fail
    refine bodyPost_ret (v := .agg #[.int .i64 (1), .int .i64 (-a), .string ({ data := #[] })]) (by simp [results, Try.results14, go_sem, *]) rfl ⟨by rw [e1.out], below_fillg (Nat.le_refl _) (hbW.th hb1) _ _ _⟩
  · obtain ⟨r0, r1, r2, r3, r4, r5, r6⟩ := hRB.step hb1
    have e1 : Hid (absV a = a) := (h2.out (by assumption)).symm
    go_wp2_with fail
    refine bodyPost_ret (v := .agg #[.int .i64 (1), .int .i64 (a), .string ({ data := #[] })]) (by simp [results, Try.results14, go_sem, *]) rfl ⟨by rw [e1.out], below_fillg (Nat.le_refl _) (hbW.th hb1) _ _ _⟩
set_option maxHeartbeats 800000 in
theorem one_sign (a : Int) (w : World) (ha : Mant a) : Calls Try.prog 14 #[.string { data := #[83, 73, 71, 78] }, .int .i64 a] w (RetV (oK (ofO (sgnV a))) (oN (ofO (sgnV a))) { data := #[] } w) := by
  obtain ⟨W, hW, hbW, hRB⟩ := start1 w
  have HW := Lib.hid hW
  obtain ⟨a1, a2⟩ := ha
  clear hW
  have hU : ∀ x, Hid (x = sgnV a) → Calls Try.prog 24 #[.int .i64 x] W (RetV (oK (ofO (sgnV a))) (oN (ofO (sgnV a))) { data := #[] } W) := fun x hx => by rw [← hx.out]; exact back_any x W
  obtain ⟨K, hK⟩ : ∃ K, oK (ofO (sgnV a)) = K := ⟨_, rfl⟩
  obtain ⟨N, hN⟩ : ∃ N, oN (ofO (sgnV a)) = N := ⟨_, rfl⟩
  rw [hK, hN] at hU
  have HU := Lib.hid hU
  have HK := Lib.hid hK
  have HN := Lib.hid hN
  clear hU hK hN
  go_enter Try.func14, Try.ntmps14
  go_wp2_with fail
  all_goals rw [HW.out]
  all_goals refine (HU.out _ (by show _ = _; unfold sgnV; repeat' split <;> omega)).mono ?_
  all_goals rintro e w1 ⟨rfl, hb1⟩
  all_goals obtain ⟨r0, r1, r2, r3, r4, r5, r6⟩ := hRB.step (hb1)
  all_goals go_wp2_with fail
  all_goals refine bodyPost_ret (v := .agg #[.int .i64 (K), .int .i64 (N), .string ({ data := #[] })]) (by simp [results, Try.results14, go_sem, *]) rfl ⟨by rw [HK.out, HN.out], below_fillg (Nat.le_refl _) (hbW.th (hb1)) _ _ _⟩
set_option maxHeartbeats 800000 in
theorem one_int (a : Int) (w : World) (ha : Mant a) : Calls Try.prog 14 #[.string { data := #[73, 78, 84] }, .int .i64 a] w (RetV (oK (floO a)) (oN (floO a)) { data := #[] } w) := by
  obtain ⟨W, hW, hbW, hRB⟩ := start1 w
  have HW := Lib.hid hW
  obtain ⟨a1, a2⟩ := ha
  clear hW
  go_enter Try.func14, Try.ntmps14
  go_wp2_with fail
  all_goals rw [HW.out]
  refine (floor_any a _ ⟨a1, a2⟩).mono ?_
  rintro e w0 hp
  obtain ⟨V, B, rfl, hfe, rfl⟩ := floor_open ⟨a1, a2⟩ hp
  have hm := fun w => made_end hfe w
  obtain ⟨K, hK⟩ : ∃ K, oK (floO a) = K := ⟨_, rfl⟩
  obtain ⟨N, hN⟩ : ∃ N, oN (floO a) = N := ⟨_, rfl⟩
  rw [hK, hN] at hm
  have HM := Lib.hid hm
  have HK := Lib.hid hK
  have HN := Lib.hid hN
  clear hfe hm hK hN hp
  go_wp2_with fail
  refine (HM.out _).mono ?_
  rintro e w1 ⟨rfl, hb1⟩
  all_goals obtain ⟨r0, r1, r2, r3, r4, r5, r6⟩ := hRB.step (hb1)
  all_goals go_wp2_with fail
  all_goals refine bodyPost_ret (v := .agg #[.int .i64 (K), .int .i64 (N), .string ({ data := #[] })]) (by simp [results, Try.results14, go_sem, *]) rfl ⟨by rw [HK.out, HN.out], below_fillg (Nat.le_refl _) (hbW.th (hb1)) _ _ _⟩
set_option maxHeartbeats 800000 in
theorem one_trunc (a : Int) (w : World) (ha : Mant a) : Calls Try.prog 14 #[.string { data := #[84, 82, 85, 78, 67] }, .int .i64 a] w (RetV 1 (a - a.tmod 1000000) { data := #[] } w) := by
  obtain ⟨W, hW, hbW, hRB⟩ := start1 w
  have HW := Lib.hid hW
  obtain ⟨a1, a2⟩ := ha
  clear hW
  obtain ⟨r, hr⟩ : ∃ r, a.tmod 1000000 = r := ⟨_, rfl⟩
  have hrb : (0 ≤ a → 0 ≤ r ∧ r ≤ a) ∧ (a < 0 → a ≤ r ∧ r ≤ 0) := by
    rw [← hr, tmod_if a _]
    split <;> omega
  obtain ⟨N, hN⟩ : ∃ N, a - r = N := ⟨_, rfl⟩
  have hn : -9223372036854775807 ≤ a - r ∧ a - r ≤ 9223372036854775807 := by omega
  have HN := Lib.hid hN
  clear hN hrb
  go_enter Try.func14, Try.ntmps14
  go_wp2_with fail
  all_goals rw [HW.out]
  rw [HN.out]
  refine (vnum_any _ _).mono ?_
  rintro e w1 ⟨rfl, hb1⟩
  have HR := Lib.hid hr
  clear hr
  all_goals obtain ⟨r0, r1, r2, r3, r4, r5, r6⟩ := hRB.step (hb1)
  all_goals go_wp2_with fail
  all_goals refine bodyPost_ret (v := .agg #[.int .i64 (1), .int .i64 (N), .string ({ data := #[] })]) (by simp [results, Try.results14, go_sem, *]) rfl ⟨by rw [HR.out, HN.out], below_fillg (Nat.le_refl _) (hbW.th (hb1)) _ _ _⟩
set_option maxHeartbeats 800000 in
theorem one_even (a : Int) (w : World) (ha : Mant a) : Calls Try.prog 14 #[.string { data := #[69, 86, 69, 78] }, .int .i64 a] w (RetV (oK (ofO (awayN a false))) (oN (ofO (awayN a false))) { data := #[] } w) := by
  obtain ⟨W, hW, hbW, hRB⟩ := start1 w
  have HW := Lib.hid hW
  obtain ⟨a1, a2⟩ := ha
  clear hW
  go_enter Try.func14, Try.ntmps14
  go_wp2_with fail
  all_goals rw [HW.out]
  refine (away_any a false _ ⟨a1, a2⟩).mono ?_
  obtain ⟨K, hK⟩ : ∃ K, oK (ofO (awayN a false)) = K := ⟨_, rfl⟩
  obtain ⟨N, hN⟩ : ∃ N, oN (ofO (awayN a false)) = N := ⟨_, rfl⟩
  rw [hK, hN]
  have HK := Lib.hid hK
  have HN := Lib.hid hN
  clear hK hN
  rintro e w1 ⟨rfl, hb1⟩
  all_goals obtain ⟨r0, r1, r2, r3, r4, r5, r6⟩ := hRB.step (hb1)
  all_goals go_wp2_with fail
  all_goals refine bodyPost_ret (v := .agg #[.int .i64 (K), .int .i64 (N), .string ({ data := #[] })]) (by simp [results, Try.results14, go_sem, *]) rfl ⟨by rw [HK.out, HN.out], below_fillg (Nat.le_refl _) (hbW.th (hb1)) _ _ _⟩
set_option maxHeartbeats 800000 in
theorem one_odd (a : Int) (w : World) (ha : Mant a) : Calls Try.prog 14 #[.string { data := #[79, 68, 68] }, .int .i64 a] w (RetV (oK (ofO (awayN a true))) (oN (ofO (awayN a true))) { data := #[] } w) := by
  obtain ⟨W, hW, hbW, hRB⟩ := start1 w
  have HW := Lib.hid hW
  obtain ⟨a1, a2⟩ := ha
  clear hW
  go_enter Try.func14, Try.ntmps14
  go_wp2_with fail
  all_goals rw [HW.out]
  refine (away_any a true _ ⟨a1, a2⟩).mono ?_
  obtain ⟨K, hK⟩ : ∃ K, oK (ofO (awayN a true)) = K := ⟨_, rfl⟩
  obtain ⟨N, hN⟩ : ∃ N, oN (ofO (awayN a true)) = N := ⟨_, rfl⟩
  rw [hK, hN]
  have HK := Lib.hid hK
  have HN := Lib.hid hN
  clear hK hN
  rintro e w1 ⟨rfl, hb1⟩
  all_goals obtain ⟨r0, r1, r2, r3, r4, r5, r6⟩ := hRB.step (hb1)
  all_goals go_wp2_with fail
  all_goals refine bodyPost_ret (v := .agg #[.int .i64 (K), .int .i64 (N), .string ({ data := #[] })]) (by simp [results, Try.results14, go_sem, *]) rfl ⟨by rw [HK.out, HN.out], below_fillg (Nat.le_refl _) (hbW.th (hb1)) _ _ _⟩
theorem one_other (s : ByteArray) (a : Int) (w : World) (ha : Mant a) (t1 : (s.toList == [65, 66, 83]) = false) (t2 : (s.toList == [83, 73, 71, 78]) = false) (t3 : (s.toList == [73, 78, 84]) = false) (t4 : (s.toList == [84, 82, 85, 78, 67]) = false)
    (t5 : (s.toList == [69, 86, 69, 78]) = false) (t6 : (s.toList == [79, 68, 68]) = false) (t7 : (s.toList == [70, 65, 67, 84]) = false) : Calls Try.prog 14 #[.string s, .int .i64 a] w (RetV 4 2 { data := #[] } w) := by
  obtain ⟨W, hW, hbW, hRB⟩ := start1 w
  have HW := Lib.hid hW
  obtain ⟨a1, a2⟩ := ha
  clear hW
  go_enter Try.func14, Try.ntmps14
  go_wp2_with fail
  all_goals rw [HW.out]
  refine (vfail_any 2 _).mono ?_
  rintro e w1 ⟨rfl, hb1⟩
  all_goals obtain ⟨r0, r1, r2, r3, r4, r5, r6⟩ := hRB.step (hb1)
  all_goals go_wp2_with fail
  all_goals refine bodyPost_ret (v := .agg #[.int .i64 (4), .int .i64 (2), .string ({ data := #[] })]) (by simp [results, Try.results14, go_sem, *]) rfl ⟨rfl, below_fillg (Nat.le_refl _) (hbW.th (hb1)) _ _ _⟩
theorem str_ne {s : ByteArray} {l : List UInt8} (h : s ≠ ⟨l.toArray⟩) : (s.toList == l) = false := by
  rw [Lib.toList_data]
  rw [beq_eq_false_iff_ne]
  intro e
  refine h ?_
  obtain ⟨d⟩ := s
  congr 1
  simpa using congrArg List.toArray e
theorem iin_new (w : World) (zs : List Int) : IIn (w.alloc (.cells (iv zs).toArray 2)) (some ⟨w.heap.size, 0, none⟩) zs.length zs := by
  refine ⟨rfl, fun _ => ⟨_, _, rfl, by simp, fun j hj => ?_⟩⟩
  rw [World.cell?_alloc_new, Nat.zero_add, List.getElem?_toArray, iv, List.getElem?_map, List.getD_eq_getElem?_getD, List.getElem?_eq_getElem hj]
  rfl
def factN : Nat → Nat
  | 0 => 1
  | k + 1 => factN k * (k + 1)
theorem factN_bd : ∀ j, j < 21 → factN j ≤ 2432902008176640000 := by decide
def factO (a : Int) : Option Int := if a.tdiv 1000000 < 0 ∨ 20 < a.tdiv 1000000 then none else ofO (factN (a.tdiv 1000000).toNat)
set_option maxHeartbeats 800000 in
theorem one_fact (a : Int) (w : World) (ha : Mant a) : Calls Try.prog 14 #[.string { data := #[70, 65, 67, 84] }, .int .i64 a] w (RetV (oK (factO a)) (oN (factO a)) { data := #[] } w) := by
  obtain ⟨W, hW, hbW, hRB⟩ := start1 w
  have HW := Lib.hid hW
  have HA := Lib.hid ha
  clear hW ha
  go_enter Try.func14, Try.ntmps14
  go_wp2_with fail
  rw [HW.out]
  have hin0 : IIn (W.alloc (.cells #[.int .i64 a] 2)) (some ⟨W.heap.size, 0, none⟩) 1 [a] := iin_new W [a]
  have hwh := wholes_any _ 1 1 [a] _ hin0 (by omega) (by intro z hz; simp at hz; subst hz; exact HA.out)
  have hsz : W.heap.size = w.heap.size + 1 := by rw [← HW.out]; simp
  rw [hsz] at hwh
  refine hwh.mono ?_
  clear hwh hin0
  rintro e w1 ⟨a', cap', rfl, hin, hcp, hb1'⟩
  have hb1 : Ext W w1 := Below.th (below_alloc _ _) hb1'
  obtain ⟨b, off, rfl, hB, hc⟩ := hin.2 (by simp)
  have hc0 := hc 0 (by simp)
  simp only [List.map_cons, List.getD_cons_zero, Nat.add_zero] at hc0
  obtain ⟨n, hn⟩ : ∃ n, a.tdiv 1000000 = n := ⟨_, rfl⟩
  have hF : factO a = if n < 0 ∨ 20 < n then none else ofO (factN n.toNat) := by rw [← hn]; rfl
  rw [hn] at hc0
  have HF := Lib.hid hF
  have hcp1 : (1 : Int) ≤ cap' := by simp at hcp; omega
  clear hF hn hc hin hb1' hcp
  by_cases hr : n < 0 ∨ 20 < n
  · have hf : Hid (factO a = none) := by show _ = _; rw [HF.out, if_pos hr]
    rcases hr with h | h
    · go_wp2_with fail
      refine (vfail_any 5 _).mono ?_
      rintro e w2 ⟨rfl, hb2⟩
      obtain ⟨r0, r1, r2, r3, r4, r5, r6⟩ := hRB.step (hb1.trans hb2)
      go_wp2_with fail
      refine bodyPost_ret (v := .agg #[.int .i64 (4), .int .i64 (5), .string ({ data := #[] })]) (by simp [results, Try.results14, go_sem, *]) rfl ⟨by rw [hf.out]; rfl, below_fillg (Nat.le_refl _) (hbW.th (hb1.trans hb2)) _ _ _⟩
    · have h0 : ¬ n < 0 := by omega
      go_wp2_with fail
      refine (vfail_any 5 _).mono ?_
      rintro e w2 ⟨rfl, hb2⟩
      obtain ⟨r0, r1, r2, r3, r4, r5, r6⟩ := hRB.step (hb1.trans hb2)
      go_wp2_with fail
      refine bodyPost_ret (v := .agg #[.int .i64 (4), .int .i64 (5), .string ({ data := #[] })]) (by simp [results, Try.results14, go_sem, *]) rfl ⟨by rw [hf.out]; rfl, below_fillg (Nat.le_refl _) (hbW.th (hb1.trans hb2)) _ _ _⟩
  · obtain ⟨k, rfl⟩ : ∃ k : Nat, n = k := ⟨n.toNat, by omega⟩
    have hk : k ≤ 20 := by omega
    have hf : Hid (factO a = ofO (factN k)) := by show _ = _; rw [HF.out, if_neg hr, Int.toNat_natCast]
    clear hr HF
    go_wp2_with fail
    go_loop [6, 7] (fun so si => ∃ j : Nat, 1 ≤ j ∧ (j ≤ k ∨ j = 1) ∧ si = .int .i64 ((j + 1 : Nat) : Int) ∧ so = .int .i64 (factN j : Nat)) (fun _ si => k + 2 - (intOf si).toNat)
    case atStart => exact ⟨1, by omega, .inr rfl, rfl, rfl⟩
    case round =>
      obtain ⟨j, hj1, hj2, rfl, rfl⟩ := hrel
      by_cases hlt : j + 1 ≤ k
      · have hfb := factN_bd (j + 1) (by omega)
        have hfs : Hid (((factN j : Nat) : Int) * ((j + 1 : Nat) : Int) = (factN (j + 1) : Nat)) := by show _ = _; rw [factN]; push_cast; rfl
        have hfb1 : ((factN j : Nat) : Int) * ((j + 1 : Nat) : Int) ≤ 2432902008176640000 := by rw [hfs.out]; omega
        have hfb2 : 0 ≤ ((factN j : Nat) : Int) * ((j + 1 : Nat) : Int) := by rw [hfs.out]; omega
        obtain ⟨x, hx⟩ : ∃ x, ((j + 1 : Nat) : Int) = x := ⟨_, rfl⟩
        obtain ⟨y, hy⟩ : ∃ y, ((factN j : Nat) : Int) = y := ⟨_, rfl⟩
        rw [hx, hy] at hfb1 hfb2 hfs ⊢
        have hx1 : x ≤ k := by omega
        have hx2 : Hid (x + 1 = ((j + 1 + 1 : Nat) : Int)) := by show _ = _; omega
        have hx3 : 0 ≤ x := by omega
        obtain ⟨z, hz⟩ : ∃ z, y * x = z := ⟨_, rfl⟩
        have rz : IntKind.i64.wrap z = z := by rw [IntKind.wrap_i64]; omega
        have hxj : Hid (x.toNat = j + 1) := by show _ = _; omega
        have rz2 : wrap64 z = z := by unfold wrap64; omega
        rw [hz] at hfs
        clear hx hy hfb hj2 hj1 hfb1 hfb2
        go_wp2_with fail
        go_round
        case rel => exact ⟨j + 1, by omega, .inl hlt, by rw [← hx2.out], by rw [← hfs.out]⟩
        case measure =>
          have := hxj.out
          have := hx2.out
          simp [intOf]; omega
      · have hfk : factN j = factN k := by
          rcases Nat.lt_or_ge k j with h | h
          · obtain rfl : j = 1 := by omega
            obtain rfl : k = 0 := by omega
            rfl
          · obtain rfl : j = k := by omega
            rfl
        rw [hfk]
        have hbk := fun w => back_any (factN k : Nat) w
        rw [← hf.out] at hbk
        obtain ⟨y, hy⟩ : ∃ y, ((factN k : Nat) : Int) = y := ⟨_, rfl⟩
        rw [hy] at hbk ⊢
        obtain ⟨K, hK⟩ : ∃ K, oK (factO a) = K := ⟨_, rfl⟩
        obtain ⟨N, hN⟩ : ∃ N, oN (factO a) = N := ⟨_, rfl⟩
        rw [hK, hN] at hbk
        have HBK := Lib.hid hbk
        have HK := Lib.hid hK
        have HN := Lib.hid hN
        have hjk : (k : Int) < ((j + 1 : Nat) : Int) := by omega
        clear hbk hK hN hfk hy hj2 hlt hf
        go_wp2_with fail
        refine (HBK.out _).mono ?_
        rintro e w2 ⟨rfl, hb2⟩
        obtain ⟨r0, r1, r2, r3, r4, r5, r6⟩ := hRB.step (hb1.trans hb2)
        go_wp2_with fail
        refine bodyPost_ret (v := .agg #[.int .i64 (K), .int .i64 (N), .string ({ data := #[] })]) (by simp [results, Try.results14, go_sem, *]) rfl ⟨by rw [HK.out, HN.out], below_fillg (Nat.le_refl _) (hbW.th (hb1.trans hb2)) _ _ _⟩
end Go.Proofs.Ytiddefbjnhhiiaa
