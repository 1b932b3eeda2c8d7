/-
  reckonerref01.Print: the walk. Condition: the argument is a mantissa.
-/
import Derived.Test.YtcalgokkibhpeaaPrintW
import Derived.Lib.Strings
namespace Go.Proofs.Ytcalgokkibhpeaa
open Go.RowKit Num
set_option linter.unusedVariables false

theorem rabs_any (a : Int) (w : World) (ha : -9223372036854775807 ≤ a ∧ a ≤ 9223372036854775807) :
    Calls Try.prog 28 #[.int .i64 a] w fun e w' => e = .returned (.int .u64 (a.natAbs : Int)) ∧ w = w' := by
  by_cases h : a < 0
  · have e : (a.natAbs : Int) = -a := by omega
    have e2 : IntKind.u64.wrap (-IntKind.u64.wrap a) = -a := by
      simp [IntKind.wrap, IntKind.bits, IntKind.signed]; omega
    go_enter Try.func28, Try.ntmps28
    go_wp2
    go_ret
    exact ⟨by rw [e]; rfl, rfl⟩
  · have e : (a.natAbs : Int) = a := by omega
    go_enter Try.func28, Try.ntmps28
    go_wp2
    go_ret
    exact ⟨by first | rfl | rw [e], rfl⟩

/-- string([]byte{c}). -/
theorem one_text (X : Int) (c : UInt8) (hX : X = (c.toNat : Int)) (w : World) :
    (convert 29 9 (.slice (some ⟨w.heap.size, 0, none⟩) 1 1)).run Try.prog (w.alloc (.cells #[.int .u8 X] 5)) = .ok (.string ⟨#[c]⟩) (w.alloc (.cells #[.int .u8 X] 5)) := by
  subst hX
  refine run_convert_bytes_back _ 29 9 5 ⟨w.heap.size, 0, none⟩ 1 [c] Try.underlying29 Try.underlying5 Try.underlying9 fun j hj => ?_
  obtain rfl : j = 0 := by simp at hj; omega
  rw [add0, World.cell?_alloc_at _ _ _ _ rfl]
  rfl

theorem cons_text (c : UInt8) (s : ByteArray) : ((⟨#[c]⟩ : ByteArray) ++ s).data.toList = c :: s.data.toList := by
  rw [ByteArray.data_append]; simp

theorem size_le {l m : List UInt8} {s : ByteArray} {k : Nat} (h : l ++ s.data.toList = m) (hm : m.length ≤ k) : s.size ≤ k := by
  have e : s.size = s.data.toList.length := rfl
  rw [← h, List.length_append] at hm
  omega
theorem text_ext {s : ByteArray} {l : List UInt8} (h : s.data.toList = l) : s = ⟨l.toArray⟩ := by
  rw [← h]

set_option maxHeartbeats 800000 in
theorem refprint_any (a : Int) (w : World) (ha : -9223372036854775807 ≤ a ∧ a ≤ 9223372036854775807) :
    Calls Try.prog 20 #[.int .i64 a] w fun e w' => e = .returned (.string ⟨(txt a).toArray⟩) ∧ Below w.heap.size w w' := by
  obtain ⟨N, hNa⟩ : ∃ N, a.natAbs = N := ⟨_, rfl⟩
  have hN : N ≤ 9223372036854775807 := by omega
  have HN := Lib.hid hNa
  clear hNa
  go_enter Try.func20, Try.ntmps20
  go_wp2_with fail
  refine (rabs_any a _ ha).mono ?_
  rintro e w' ⟨rfl, rfl⟩
  rw [HN.out]
  go_wp2
  go_loopw [3, 4, 5] (fun sn ss si wr => ∃ (i : Nat) (s : ByteArray), i ≤ 6 ∧ s.data.toList = frs N i ∧ sn = .int .u64 ((N / 10 ^ i : Nat) : Int) ∧ ss = .string s ∧ si = .int .i64 i ∧ Below w.heap.size w wr)
    (fun _ _ si _ => 6 - (intOf si).toNat)
  case atStart => exact ⟨0, _, by omega, rfl, by simp, rfl, rfl, Below.refl _ _⟩
  case round =>
    obtain ⟨i, s, hi, hs, rfl, rfl, rfl, hb⟩ := hrel
    have HS := Lib.hid hs
    clear hs
    obtain ⟨n, hn⟩ : ∃ n, N / 10 ^ i = n := ⟨_, rfl⟩
    rw [hn]
    have hn2 : n ≤ 9223372036854775807 := by rw [← hn]; exact Nat.le_trans (Nat.div_le_self _ _) hN
    have HN2 := Lib.hid hn
    clear hn
    have hsl : s.size ≤ 6 := by
      have e : s.size = (frs N i).length := by rw [← HS.out]; rfl
      have := len_frs N i
      omega
    by_cases hlt : i < 6
    · obtain ⟨c, hc⟩ : ∃ c, UInt8.ofNat (48 + n % 10) = c := ⟨_, rfl⟩
      have hw : ∀ w' : World, (convert 29 9 (.slice (some ⟨w'.heap.size, 0, none⟩) 1 1)).run Try.prog (w'.alloc (.cells #[.int .u8 (48 + (n : Int) % 10)] 5)) = .ok (.string ⟨#[c]⟩) (w'.alloc (.cells #[.int .u8 (48 + (n : Int) % 10)] 5)) := one_text _ _ (by rw [← hc, u8_dig _ (Nat.mod_lt _ (by omega))]; omega)
      have hd : Hid (n / 10 = N / 10 ^ (i + 1)) := by show _ = _; rw [← HN2.out, div_step]
      have hf : Hid (frs N (i + 1) = if frs N i = [] ∧ n % 10 = 0 then [] else c :: frs N i) := by show _ = _; rw [← hc, ← HN2.out]; rfl
      clear hc
      by_cases h1 : s.toList = []
      · have h1' : Hid (frs N i = []) := by show _ = _; rw [← HS.out, ← Lib.toList_data]; exact h1
        by_cases h2 : n % 10 = 0
        · have h3 : (n : Int) % 10 ≤ 0 := by omega
          have hf2 : Hid (s.data.toList = frs N (i + 1)) := by show _ = _; rw [hf.out, if_pos ⟨h1'.out, h2⟩, HS.out, h1'.out]
          clear h2
          go_wp2
          go_roundw
          case rel => exact ⟨i + 1, s, by omega, hf2.out, by rw [← hd.out]; go_num, rfl, by go_num, hb⟩
          case measure => simp [intOf]; omega
        · have h3 : 0 < (n : Int) % 10 := by omega
          have hf2 : Hid (((⟨#[c]⟩ : ByteArray) ++ s).data.toList = frs N (i + 1)) := by show _ = _; rw [hf.out, if_neg (fun h => h2 h.2), cons_text, HS.out]
          clear h2
          go_wp2
          go_roundw
          case rel => exact ⟨i + 1, _, by omega, hf2.out, by rw [← hd.out]; go_num, rfl, by go_num, hb.alloc hb.size _⟩
          case measure => simp [intOf]; omega
      · have hf2 : Hid (((⟨#[c]⟩ : ByteArray) ++ s).data.toList = frs N (i + 1)) := by
          show _ = _
          rw [hf.out, if_neg (fun h => h1 (by rw [Lib.toList_data, HS.out]; exact h.1)), cons_text, HS.out]
        go_wp2
        go_roundw
        case rel => exact ⟨i + 1, _, by omega, hf2.out, by rw [← hd.out]; go_num, rfl, by go_num, hb.alloc hb.size _⟩
        case measure => simp [intOf]; omega
    · have h6 : i = 6 := by omega
      subst h6
      have hn6 : N / 1000000 = n := HN2.out
      have HN6 := Lib.hid hn6
      clear hn6
      by_cases h1 : s.toList = []
      · have h1' : Hid (frs N 6 = []) := by show _ = _; rw [← HS.out, ← Lib.toList_data]; exact h1
        by_cases h0 : n = 0
        · have h0' : ((n : Int) == 0) = true := by simp; omega
          have hT : Hid (dig n ++ (((⟨#[48]⟩ : ByteArray) ++ s)).data.toList = txtAbs N) := by
            show _ = _
            unfold txtAbs whole frac
            rw [HN6.out, if_pos h0, if_pos h1'.out]
            rw [h0, dig_zero, cons_text]
            rw [HS.out, h1'.out]
            try rfl
            try simp
          have hTs : (((⟨#[48]⟩ : ByteArray) ++ s)).size ≤ 8 := by rw [ByteArray.size_append]; have e : (⟨#[48]⟩ : ByteArray).size = 1 := rfl; omega
          clear h0
          go_wp2
          go_loopw [3, 4] (fun sn ss wr => ∃ (m : Nat) (t : ByteArray), m ≤ 9223372036854775807 ∧ dig m ++ t.data.toList = txtAbs N ∧ t.size ≤ 20 ∧ sn = .int .u64 (m : Int) ∧ ss = .string t ∧ Below w.heap.size w wr) (fun sn _ _ => (intOf sn).toNat)
          case atStart => exact ⟨n, _, hn2, hT.out, by omega, rfl, rfl, hb⟩
          case round =>
            obtain ⟨m, t, hm, ht, hts, rfl, rfl, hbr⟩ := hrel
            have HTm := Lib.hid ht
            clear ht hT hTs
            by_cases h0m : 0 < m
            · obtain ⟨c, hc⟩ : ∃ c, UInt8.ofNat (48 + m % 10) = c := ⟨_, rfl⟩
              have hw : ∀ w' : World, (convert 29 9 (.slice (some ⟨w'.heap.size, 0, none⟩) 1 1)).run Try.prog (w'.alloc (.cells #[.int .u8 (48 + (m : Int) % 10)] 5)) = .ok (.string ⟨#[c]⟩) (w'.alloc (.cells #[.int .u8 (48 + (m : Int) % 10)] 5)) := one_text _ _ (by rw [← hc, u8_dig _ (Nat.mod_lt _ (by omega))]; omega)
              have hT2 : Hid (dig (m / 10) ++ ((⟨#[c]⟩ : ByteArray) ++ t).data.toList = txtAbs N) := by
                show _ = _
                rw [cons_text, ← HTm.out, dig_step m (by omega), hc, List.append_assoc, List.singleton_append]
              have hs2 : ((⟨#[c]⟩ : ByteArray) ++ t).size ≤ 20 := size_le hT2.out (len_txtAbs N hN).2
              clear hc
              go_wp2
              go_roundw
              case rel => exact ⟨m / 10, _, by omega, hT2.out, hs2, by go_num, rfl, hbr.alloc hbr.size _⟩
              case measure => simp [intOf]; omega
            · have hm0 : m = 0 := by omega
              subst hm0
              have hT3 : Hid (t.data.toList = txtAbs N) := HTm.out
              by_cases hs : a < 0
              · have hr : Hid ((⟨#[45]⟩ : ByteArray) ++ t = ⟨(txt a).toArray⟩) := by
                  show _ = _
                  unfold txt
                  rw [if_pos hs, HN.out, ← hT3.out]
                  exact text_ext (by rw [cons_text])
                go_wp2
                go_ret
                exact ⟨by rw [← hr.out]; rfl, hbr⟩
              · have hr : Hid (t = ⟨(txt a).toArray⟩) := by
                  show _ = _
                  unfold txt
                  rw [if_neg hs, HN.out, ← hT3.out]
                go_wp2
                go_ret
                exact ⟨by rw [← hr.out]; rfl, hbr⟩
        · have h0' : ((n : Int) == 0) = false := by simp; omega
          have hT : Hid (dig n ++ (s).data.toList = txtAbs N) := by
            show _ = _
            unfold txtAbs whole frac
            rw [HN6.out, if_neg h0, if_pos h1'.out]
            rw [HS.out, h1'.out]
            try rfl
            try simp
          have hTs : (s).size ≤ 8 := by omega
          clear h0
          go_wp2
          go_loopw [3, 4] (fun sn ss wr => ∃ (m : Nat) (t : ByteArray), m ≤ 9223372036854775807 ∧ dig m ++ t.data.toList = txtAbs N ∧ t.size ≤ 20 ∧ sn = .int .u64 (m : Int) ∧ ss = .string t ∧ Below w.heap.size w wr) (fun sn _ _ => (intOf sn).toNat)
          case atStart => exact ⟨n, _, hn2, hT.out, by omega, rfl, rfl, hb⟩
          case round =>
            obtain ⟨m, t, hm, ht, hts, rfl, rfl, hbr⟩ := hrel
            have HTm := Lib.hid ht
            clear ht hT hTs
            by_cases h0m : 0 < m
            · obtain ⟨c, hc⟩ : ∃ c, UInt8.ofNat (48 + m % 10) = c := ⟨_, rfl⟩
              have hw : ∀ w' : World, (convert 29 9 (.slice (some ⟨w'.heap.size, 0, none⟩) 1 1)).run Try.prog (w'.alloc (.cells #[.int .u8 (48 + (m : Int) % 10)] 5)) = .ok (.string ⟨#[c]⟩) (w'.alloc (.cells #[.int .u8 (48 + (m : Int) % 10)] 5)) := one_text _ _ (by rw [← hc, u8_dig _ (Nat.mod_lt _ (by omega))]; omega)
              have hT2 : Hid (dig (m / 10) ++ ((⟨#[c]⟩ : ByteArray) ++ t).data.toList = txtAbs N) := by
                show _ = _
                rw [cons_text, ← HTm.out, dig_step m (by omega), hc, List.append_assoc, List.singleton_append]
              have hs2 : ((⟨#[c]⟩ : ByteArray) ++ t).size ≤ 20 := size_le hT2.out (len_txtAbs N hN).2
              clear hc
              go_wp2
              go_roundw
              case rel => exact ⟨m / 10, _, by omega, hT2.out, hs2, by go_num, rfl, hbr.alloc hbr.size _⟩
              case measure => simp [intOf]; omega
            · have hm0 : m = 0 := by omega
              subst hm0
              have hT3 : Hid (t.data.toList = txtAbs N) := HTm.out
              by_cases hs : a < 0
              · have hr : Hid ((⟨#[45]⟩ : ByteArray) ++ t = ⟨(txt a).toArray⟩) := by
                  show _ = _
                  unfold txt
                  rw [if_pos hs, HN.out, ← hT3.out]
                  exact text_ext (by rw [cons_text])
                go_wp2
                go_ret
                exact ⟨by rw [← hr.out]; rfl, hbr⟩
              · have hr : Hid (t = ⟨(txt a).toArray⟩) := by
                  show _ = _
                  unfold txt
                  rw [if_neg hs, HN.out, ← hT3.out]
                go_wp2
                go_ret
                exact ⟨by rw [← hr.out]; rfl, hbr⟩
      · have h1' : Hid (¬ frs N 6 = []) := fun h => h1 (by rw [Lib.toList_data, HS.out]; exact h)
        have hne : (!s.toList.isEmpty) = true := by simp [h1]
        by_cases h0 : n = 0
        · have h0' : ((n : Int) == 0) = true := by simp; omega
          have hT : Hid (dig n ++ (((⟨#[48]⟩ : ByteArray) ++ ((⟨#[46]⟩ : ByteArray) ++ s))).data.toList = txtAbs N) := by
            show _ = _
            unfold txtAbs whole frac
            rw [HN6.out, if_pos h0, if_neg h1'.out]
            rw [h0, dig_zero, cons_text]
            rw [cons_text, HS.out]
            try rfl
            try simp
          have hTs : (((⟨#[48]⟩ : ByteArray) ++ ((⟨#[46]⟩ : ByteArray) ++ s))).size ≤ 8 := by rw [ByteArray.size_append, ByteArray.size_append]; have e : (⟨#[46]⟩ : ByteArray).size = 1 := rfl; have e2 : (⟨#[48]⟩ : ByteArray).size = 1 := rfl; omega
          clear h0
          go_wp2
          go_loopw [3, 4] (fun sn ss wr => ∃ (m : Nat) (t : ByteArray), m ≤ 9223372036854775807 ∧ dig m ++ t.data.toList = txtAbs N ∧ t.size ≤ 20 ∧ sn = .int .u64 (m : Int) ∧ ss = .string t ∧ Below w.heap.size w wr) (fun sn _ _ => (intOf sn).toNat)
          case atStart => exact ⟨n, _, hn2, hT.out, by omega, rfl, rfl, hb⟩
          case round =>
            obtain ⟨m, t, hm, ht, hts, rfl, rfl, hbr⟩ := hrel
            have HTm := Lib.hid ht
            clear ht hT hTs
            by_cases h0m : 0 < m
            · obtain ⟨c, hc⟩ : ∃ c, UInt8.ofNat (48 + m % 10) = c := ⟨_, rfl⟩
              have hw : ∀ w' : World, (convert 29 9 (.slice (some ⟨w'.heap.size, 0, none⟩) 1 1)).run Try.prog (w'.alloc (.cells #[.int .u8 (48 + (m : Int) % 10)] 5)) = .ok (.string ⟨#[c]⟩) (w'.alloc (.cells #[.int .u8 (48 + (m : Int) % 10)] 5)) := one_text _ _ (by rw [← hc, u8_dig _ (Nat.mod_lt _ (by omega))]; omega)
              have hT2 : Hid (dig (m / 10) ++ ((⟨#[c]⟩ : ByteArray) ++ t).data.toList = txtAbs N) := by
                show _ = _
                rw [cons_text, ← HTm.out, dig_step m (by omega), hc, List.append_assoc, List.singleton_append]
              have hs2 : ((⟨#[c]⟩ : ByteArray) ++ t).size ≤ 20 := size_le hT2.out (len_txtAbs N hN).2
              clear hc
              go_wp2
              go_roundw
              case rel => exact ⟨m / 10, _, by omega, hT2.out, hs2, by go_num, rfl, hbr.alloc hbr.size _⟩
              case measure => simp [intOf]; omega
            · have hm0 : m = 0 := by omega
              subst hm0
              have hT3 : Hid (t.data.toList = txtAbs N) := HTm.out
              by_cases hs : a < 0
              · have hr : Hid ((⟨#[45]⟩ : ByteArray) ++ t = ⟨(txt a).toArray⟩) := by
                  show _ = _
                  unfold txt
                  rw [if_pos hs, HN.out, ← hT3.out]
                  exact text_ext (by rw [cons_text])
                go_wp2
                go_ret
                exact ⟨by rw [← hr.out]; rfl, hbr⟩
              · have hr : Hid (t = ⟨(txt a).toArray⟩) := by
                  show _ = _
                  unfold txt
                  rw [if_neg hs, HN.out, ← hT3.out]
                go_wp2
                go_ret
                exact ⟨by rw [← hr.out]; rfl, hbr⟩
        · have h0' : ((n : Int) == 0) = false := by simp; omega
          have hT : Hid (dig n ++ (((⟨#[46]⟩ : ByteArray) ++ s)).data.toList = txtAbs N) := by
            show _ = _
            unfold txtAbs whole frac
            rw [HN6.out, if_neg h0, if_neg h1'.out]
            rw [cons_text, HS.out]
            try rfl
            try simp
          have hTs : (((⟨#[46]⟩ : ByteArray) ++ s)).size ≤ 8 := by rw [ByteArray.size_append]; have e : (⟨#[46]⟩ : ByteArray).size = 1 := rfl; omega
          clear h0
          go_wp2
          go_loopw [3, 4] (fun sn ss wr => ∃ (m : Nat) (t : ByteArray), m ≤ 9223372036854775807 ∧ dig m ++ t.data.toList = txtAbs N ∧ t.size ≤ 20 ∧ sn = .int .u64 (m : Int) ∧ ss = .string t ∧ Below w.heap.size w wr) (fun sn _ _ => (intOf sn).toNat)
          case atStart => exact ⟨n, _, hn2, hT.out, by omega, rfl, rfl, hb⟩
          case round =>
            obtain ⟨m, t, hm, ht, hts, rfl, rfl, hbr⟩ := hrel
            have HTm := Lib.hid ht
            clear ht hT hTs
            by_cases h0m : 0 < m
            · obtain ⟨c, hc⟩ : ∃ c, UInt8.ofNat (48 + m % 10) = c := ⟨_, rfl⟩
              have hw : ∀ w' : World, (convert 29 9 (.slice (some ⟨w'.heap.size, 0, none⟩) 1 1)).run Try.prog (w'.alloc (.cells #[.int .u8 (48 + (m : Int) % 10)] 5)) = .ok (.string ⟨#[c]⟩) (w'.alloc (.cells #[.int .u8 (48 + (m : Int) % 10)] 5)) := one_text _ _ (by rw [← hc, u8_dig _ (Nat.mod_lt _ (by omega))]; omega)
              have hT2 : Hid (dig (m / 10) ++ ((⟨#[c]⟩ : ByteArray) ++ t).data.toList = txtAbs N) := by
                show _ = _
                rw [cons_text, ← HTm.out, dig_step m (by omega), hc, List.append_assoc, List.singleton_append]
              have hs2 : ((⟨#[c]⟩ : ByteArray) ++ t).size ≤ 20 := size_le hT2.out (len_txtAbs N hN).2
              clear hc
              go_wp2
              go_roundw
              case rel => exact ⟨m / 10, _, by omega, hT2.out, hs2, by go_num, rfl, hbr.alloc hbr.size _⟩
              case measure => simp [intOf]; omega
            · have hm0 : m = 0 := by omega
              subst hm0
              have hT3 : Hid (t.data.toList = txtAbs N) := HTm.out
              by_cases hs : a < 0
              · have hr : Hid ((⟨#[45]⟩ : ByteArray) ++ t = ⟨(txt a).toArray⟩) := by
                  show _ = _
                  unfold txt
                  rw [if_pos hs, HN.out, ← hT3.out]
                  exact text_ext (by rw [cons_text])
                go_wp2
                go_ret
                exact ⟨by rw [← hr.out]; rfl, hbr⟩
              · have hr : Hid (t = ⟨(txt a).toArray⟩) := by
                  show _ = _
                  unfold txt
                  rw [if_neg hs, HN.out, ← hT3.out]
                go_wp2
                go_ret
                exact ⟨by rw [← hr.out]; rfl, hbr⟩
end Go.Proofs.Ytcalgokkibhpeaa
