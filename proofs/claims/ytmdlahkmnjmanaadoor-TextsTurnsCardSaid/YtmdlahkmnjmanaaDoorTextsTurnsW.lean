/-
  TextsTurns: walk. Conditions: the argument's own.
-/
import Derived.Test.YtmdlahkmnjmanaaDoorTextsH
namespace Go.Proofs.YtmdlahkmnjmanaaDoor.textsTurns
open Go.RowKit Num
set_option linter.unusedVariables false
set_option linter.unusedSimpArgs false

theorem nm_gap {l : List UInt8} (h : Nm l) : (∀ i : Nat, l[i]? = some 32 → 0 < i ∧ l[i - 1]? ≠ some 32) ∧ l[l.length - 1]? ≠ some 32 := by
  induction h with
  | one c h =>
    refine ⟨fun i hi => ?_, by simpa using h⟩
    cases i with
    | zero => simp at hi; exact absurd hi h
    | succ i => simp at hi
  | snoc l c hl h ih =>
    refine ⟨fun i hi => ?_, by simpa using h⟩
    by_cases hlt : i < l.length
    · rw [List.getElem?_append_left hlt] at hi
      obtain ⟨h1, h2⟩ := ih.1 i hi
      exact ⟨h1, by rw [List.getElem?_append_left (by omega)]; exact h2⟩
    · rw [List.getElem?_append_right (by omega)] at hi
      have : i - l.length = 0 := by
        rcases Nat.eq_zero_or_pos (i - l.length) with e | e
        · exact e
        · rw [List.getElem?_eq_none (by simp; omega)] at hi; cases hi
      rw [this] at hi
      simp at hi
      exact absurd hi h
  | gap l c hl h ih =>
    have hne : 0 < l.length := by cases l with | nil => exact absurd hl.ne (by simp) | cons => simp
    refine ⟨fun i hi => ?_, ?_⟩
    · by_cases hlt : i < l.length
      · rw [List.append_assoc, List.getElem?_append_left hlt] at hi
        obtain ⟨h1, h2⟩ := ih.1 i hi
        exact ⟨h1, by rw [List.append_assoc, List.getElem?_append_left (by omega)]; exact h2⟩
      · by_cases he : i = l.length
        · subst he
          refine ⟨hne, ?_⟩
          rw [List.append_assoc, List.getElem?_append_left (by omega)]
          exact ih.2
        · rw [List.append_assoc, List.getElem?_append_right (by omega)] at hi
          have h1 : i - l.length = 1 ∨ 2 ≤ i - l.length := by omega
          rcases h1 with e | e
          · rw [e] at hi; simp at hi; exact absurd hi h
          · rw [List.getElem?_eq_none (by simp; omega)] at hi; cases hi
    · have : (l ++ [32] ++ [c]).length - 1 = l.length + 1 := by simp
      rw [this, List.append_assoc, List.getElem?_append_right (by omega)]
      simpa using h
/-- What is told of a trimmed text. -/
theorem trim_told (S : ByteArray) : (∀ i : Nat, (trimB S).data.toList[i]? = some 32 → 0 < i ∧ (trimB S).data.toList[i - 1]? ≠ some 32) ∧ ((trimB S).size = 0 ∨ (trimB S).data.toList[(trimB S).size - 1]? ≠ some 32) := by
  have hsz : (trimB S).size = (trimF S.data.toList).1.length := by show (trimF S.data.toList).1.toArray.size = _; simp
  show (∀ i : Nat, (trimF S.data.toList).1[i]? = some 32 → 0 < i ∧ (trimF S.data.toList).1[i - 1]? ≠ some 32) ∧ ((trimB S).size = 0 ∨ (trimF S.data.toList).1[(trimB S).size - 1]? ≠ some 32)
  rw [hsz]
  rcases trim_nm S.data.toList with ⟨h, -⟩ | h
  · rw [h]; exact ⟨fun i hi => by simp at hi, .inl rfl⟩
  · exact ⟨(nm_gap h).1, .inr (nm_gap h).2⟩
theorem filter_take (l : List UInt8) (i : Nat) (c : UInt8) (h : l[i]? = some c) : (l.take (i + 1)).filter (· ≠ 32) = (l.take i).filter (· ≠ 32) ++ (if c = 32 then [] else [c]) := by
  rw [List.take_add_one, h, List.filter_append]
  by_cases hc : c = 32
  · rw [if_pos hc]; subst hc; simp
  · rw [if_neg hc]; simp [hc]
theorem data_get (s : ByteArray) (i : Nat) (h : i < s.size) : s.data.toList[i]? = some (s[i]'h) := by
  have hl : i < s.data.toList.length := by simpa using h
  rw [List.getElem?_eq_getElem hl]; rfl
theorem ext_one (s : ByteArray) (i : Nat) (h : i < s.size) : s.extract i (i + 1) = ⟨#[s[i]'h]⟩ := by
  refine ByteArray.ext ?_
  rw [ByteArray.data_extract]
  apply Array.ext'
  have hl : i < s.data.toList.length := by simpa using h
  simp only [Array.toList_extract, List.extract_eq_take_drop, show i + 1 - i = 1 by omega]
  rw [List.drop_eq_getElem_cons hl]
  rfl
theorem len_le (l : List UInt8) (k n : Nat) (h : l.length ≤ n) : ((l.take k).filter (· ≠ 32)).length ≤ n := by
  have h1 := List.length_filter_le (p := fun c : UInt8 => decide (c ≠ 32)) (l := l.take k)
  have h2 : (l.take k).length ≤ l.length := by rw [List.length_take]; omega
  omega
theorem map_get (f : UInt8 → UInt8) (s : ByteArray) (i : Nat) (h : i < s.size) (h' : i < (mapB f s).size) : (mapB f s)[i]'h' = f (s[i]'h) := by
  have h1 := data_get (mapB f s) i h'
  rw [mapB_list, List.getElem?_map, data_get s i h] at h1
  exact (Option.some.inj h1).symm
theorem beq_u8 {c d : UInt8} (h : c ≠ d) : ((c.toNat : Int) == (d.toNat : Int)) = false := by
  rw [beq_eq_false_iff_ne]
  intro e
  exact h (UInt8.toNat_inj.1 (by omega))
set_option maxHeartbeats 16000000 in
set_option maxRecDepth 100000 in
theorem walk0 (s : ByteArray) (w : World) (ht : Tab w) (hs : s.size ≤ 9223372036854775807) :
    Calls Tryd.prog 5 #[.string s] w fun e w' => e = .returned (.bool true) ∧ Ext w w' := by
  have HT := Lib.hid ht
  obtain ⟨t, htt⟩ : ∃ t : Nat, min s.size 64 = t := ⟨_, rfl⟩
  have h17 : min (s.size : Int) 64 = (t : Int) := by omega
  have hts : t ≤ s.size := by omega
  have HSS : Hid ((s.extract 0 t).size ≤ 64) := Lib.hid (by rw [ByteArray.size_extract]; omega)
  clear ht htt
  go_enter Tryd.func5, Tryd.ntmps5
  go_wp2_with fail
  refine (fit_t _ HT.out).mono ?_
  rintro e w1 ⟨rfl, hE1⟩
  go_upto_region 4 with (fail)
  generalize s.extract 0 t = S at *
  have hS := HSS.out
  clear h17 hts hs
  have c1 := Lib.hid (fun w => one_up S w hS)
  have c2 := Lib.hid (fun w => one_low S w hS)
  have c3 := Lib.hid (fun w => one_trim S w hS)
  have hU := mapB_size upc S
  have hL := mapB_size loc S
  have hTs := trimB_size S
  have HTOLD := Lib.hid (trim_told S)
  have HFIL : Hid ((trimB S).data.toList.filter (· ≠ 32) = S.data.toList.filter (· ≠ 32)) := Lib.hid (trim_filter S.data.toList)
  have HMU := Lib.hid (fun i h h' => map_get upc S i h h')
  have HML := Lib.hid (fun i h h' => map_get loc S i h h')
  generalize mapB upc S = U at *
  generalize mapB loc S = L at *
  generalize trimB S = T at *
  go_wp2_with fail
  refine (c1.out _).mono ?_
  rintro e w2 ⟨rfl, hE2⟩
  go_wp2_with fail
  refine (c2.out _).mono ?_
  rintro e w3 ⟨rfl, hE3⟩
  go_wp2_with fail
  refine (c3.out _).mono ?_
  rintro e w4 ⟨rfl, hE4⟩
  obtain ⟨W5, hW5, hE5, hG5, hL5, hS5⟩ := new_blk w4 #[.int .i64 2, .int .i64 0, .string U] 24
  obtain ⟨W6, hW6, hE6, hG6, hL6, hS6⟩ := new_blk W5 #[.int .i64 2, .int .i64 0, .string L] 24
  obtain ⟨W7, hW7, hE7, hG7, hL7, hS7⟩ := new_blk W6 #[.int .i64 2, .int .i64 0, .string T] 24
  rw [hS5] at hG6
  rw [hS6, hS5] at hG7
  have HW5 := Lib.hid hW5
  have HW6 := Lib.hid hW6
  have HW7 := Lib.hid hW7
  have HE7 := Lib.hid (hE1.trans (hE2.trans (hE3.trans (hE4.trans (hE5.trans (hE6.trans hE7))))))
  have HG5 := Lib.hid (hE7.blk (hE6.blk hG5))
  have HG6 := Lib.hid (hE7.blk hG6)
  have HG7 := Lib.hid hG7
  clear hW5 hW6 hW7 hE1 hE2 hE3 hE4 hE5 hE6 hE7 hG5 hG6 hG7 hL5 hL6 hL7 hS5 hS6 hS7 c1 c2 c3
  have b5 := ext_blk HG5.out
  have b6 := ext_blk HG6.out
  have b7 := ext_blk HG7.out
  have l5 := ext_lt (blk_lt HG5.out)
  have l6 := ext_lt (blk_lt HG6.out)
  have l7 := ext_lt (blk_lt HG7.out)
  have hr := Ext.refl W7
  have hU' : ((U.size : Int) != (S.size : Int)) = false := by rw [hU]; simp
  have hL' : ((L.size : Int) != (S.size : Int)) = false := by rw [hL]; simp
  go_upto_region 5 with (fail)
  rw [HW5.out, HW6.out, HW7.out]
  clear HW5 HW6 HW7
  generalize w4.heap.size = g5 at *
  go_wp2_with fail
  clear b5 b6 b7 l5 l6 l7 hr hU' hL'
  go_loopw [6, 7, 8, 9, 10, 11, 63] (fun _ _ _ _ _ _ si wr => ∃ i : Nat, i ≤ S.size ∧ si = .int .i64 (i : Int) ∧ Ext W7 wr) (fun _ _ _ _ _ _ si _ => S.size - (intOf si).toNat)
  case atStart => exact ⟨0, by omega, rfl, Ext.refl _⟩
  case round =>
    obtain ⟨i, hi, rfl, hbw⟩ := hrel
    by_cases hlt : i < S.size
    · have hiU : i < U.size := by omega
      have hiL : i < L.size := by omega
      obtain ⟨c, hc⟩ : ∃ c : UInt8, S[i]'hlt = c := ⟨_, rfl⟩
      have hu : U[i]'hiU = upc c := by rw [← hc]; exact HMU.out i hlt hiU
      have hl : L[i]'hiL = loc c := by rw [← hc]; exact HML.out i hlt hiL
      have nu := upc_nat c
      have nl := loc_nat c
      have hc256 := c.toNat_lt
      have b5 := ext_blk (hbw.blk HG5.out)
      have b6 := ext_blk (hbw.blk HG6.out)
      have l5 := ext_lt (blk_lt (hbw.blk HG5.out))
      have l6 := ext_lt (blk_lt (hbw.blk HG6.out))
      have hr := Ext.refl wr
      generalize upc c = u at *
      generalize loc c = l at *
      have hcase : (97 ≤ c.toNat ∧ c.toNat ≤ 122) ∨ (65 ≤ c.toNat ∧ c.toNat ≤ 90) ∨ (¬ (97 ≤ c.toNat ∧ c.toNat ≤ 122) ∧ ¬ (65 ≤ c.toNat ∧ c.toNat ≤ 90)) := by omega
      go_wp2_with fail
      refine region_any (by kernel_rfl) (by kernel_rfl) rfl (fun K hK => ?_)
      repeat (first | (refine seqr_skip (by rfl) (fun ρ => by rfl) ?_; (try simp only [Act.put, List.setIfInBounds_toArray, List.set_cons_zero, List.set_cons_succ])) | (refine seqr_pure (v := ?_) (by rfl) (fun ρ => by rfl) (fun ρ w hE hF => ?_) ?_; rotate_left 1; (· ((try simp only [fill, Act.put, List.setIfInBounds_toArray, List.set_cons_zero, List.set_cons_succ]); go_simp; try with_reducible rfl)); (try simp only [Act.put, List.setIfInBounds_toArray, List.set_cons_zero, List.set_cons_succ])) | (refine seqr_call0 (v := ?_) (f := ?_) (args := ?_) (by rfl) (fun ρ => by rfl) (fun ρ w => ?_) (fun w hE => ?_) ?_; rotate_left 3; (· ((try simp only [fill, Act.put, List.setIfInBounds_toArray, List.set_cons_zero, List.set_cons_succ]); go_simp; constructor <;> with_reducible rfl)); (· (with_reducible exact CallE.call (by assumption) hE)); (try simp only [Act.put, List.setIfInBounds_toArray, List.set_cons_zero, List.set_cons_succ])))
      refine seqr_done (fun ρ wN hEN hFN => ?_); (try simp only [fill, Act.put, List.setIfInBounds_toArray, List.set_cons_zero, List.set_cons_succ]); refine (show K _ _ from hK.out _ _ ?_); clear hK K
      clear b5 b6 l5 l6 hr hFN hu hl hc
      rcases hcase with ⟨k1, k2⟩ | ⟨k1, k2⟩ | ⟨k1, k2⟩
      · rw [if_pos ⟨k1, k2⟩] at nu
        rw [if_neg (by omega)] at nl
        have mu : (u.toNat : Int) = (c.toNat : Int) - 32 := by omega
        have ml : (l.toNat : Int) = (c.toNat : Int) := by omega
        have q1 : (97 : Int) ≤ (c.toNat : Int) := by omega
        have q2 : (c.toNat : Int) ≤ 122 := by omega
        have q3 : ¬ (c.toNat : Int) ≤ 90 := by omega
        have q4 : (65 : Int) ≤ (c.toNat : Int) := by omega
        have e0 : ((c.toNat : Int) - 32 != (c.toNat : Int) - 32) = false := by simp
        have e1 : ((c.toNat : Int) != (c.toNat : Int)) = false := by simp
        clear nu nl k1 k2 hU hL
        go_wp2_with fail
        go_roundw
        case rel => exact ⟨i + 1, by omega, by go_num, hbw.trans hEN⟩
        case measure => simp [intOf]; omega
      · rw [if_neg (by omega)] at nu
        rw [if_pos ⟨k1, k2⟩] at nl
        have mu : (u.toNat : Int) = (c.toNat : Int) := by omega
        have ml : (l.toNat : Int) = (c.toNat : Int) + 32 := by omega
        have q1 : ¬ (97 : Int) ≤ (c.toNat : Int) := by omega
        have q3 : (c.toNat : Int) ≤ 90 := by omega
        have q4 : (65 : Int) ≤ (c.toNat : Int) := by omega
        have e0 : ((c.toNat : Int) + 32 != (c.toNat : Int) + 32) = false := by simp
        have e1 : ((c.toNat : Int) != (c.toNat : Int)) = false := by simp
        clear nu nl k1 k2 hU hL
        go_wp2_with fail
        go_roundw
        case rel => exact ⟨i + 1, by omega, by go_num, hbw.trans hEN⟩
        case measure => simp [intOf]; omega
      · rw [if_neg k1] at nu
        rw [if_neg k2] at nl
        have mu : (u.toNat : Int) = (c.toNat : Int) := by omega
        have ml : (l.toNat : Int) = (c.toNat : Int) := by omega
        have e1 : ((c.toNat : Int) != (c.toNat : Int)) = false := by simp
        have q0 : ¬ ((97 : Int) ≤ (c.toNat : Int) ∧ (c.toNat : Int) ≤ 122) := by omega
        have q1 : ¬ ((65 : Int) ≤ (c.toNat : Int) ∧ (c.toNat : Int) ≤ 90) := by omega
        clear nu nl k1 k2 hU hL
        rcases (by omega : (c.toNat : Int) < 65 ∨ (90 < (c.toNat : Int) ∧ (c.toNat : Int) < 97) ∨ 122 < (c.toNat : Int)) with q | ⟨q, q'⟩ | q
        all_goals
          go_wp2_with fail
          go_roundw
          case rel => exact ⟨i + 1, by omega, by go_num, hbw.trans hEN⟩
          case measure => simp [intOf]; omega
    · clear HMU HML HG5 HG6 hU hL
      have HR1 := Lib.hid hbw
      have b7 := ext_blk (hbw.blk HG7.out)
      have l7 := ext_lt (blk_lt (hbw.blk HG7.out))
      have hr := Ext.refl wr
      have HSL : Hid (S.data.toList.length ≤ 64) := Lib.hid (by rw [show S.data.toList.length = S.size by simp]; exact hS)
      have HTL : Hid (T.data.toList.length ≤ 64) := Lib.hid (by rw [show T.data.toList.length = T.size by simp]; omega)
      clear hbw
      go_wp2_with fail
      go_loop [12, 13, 126] (fun so _ si => ∃ (j : Nat) (o : ByteArray), j ≤ S.size ∧ si = .int .i64 (j : Int) ∧ so = .string o ∧ Hid (o.data.toList = (S.data.toList.take j).filter (· ≠ 32)) ∧ o.size ≤ 64) (fun _ _ si => S.size - (intOf si).toNat)
      case atStart => exact ⟨0, ⟨#[]⟩, by omega, rfl, rfl, Lib.hid (by simp), by decide⟩
      case round =>
        obtain ⟨j, o, hj, rfl, rfl, HO, ho2⟩ := hrel
        by_cases hjl : j < S.size
        · obtain ⟨c, hc⟩ : ∃ c : UInt8, S[j]'hjl = c := ⟨_, rfl⟩
          obtain ⟨k, hk⟩ : ∃ k, j + 1 = k := ⟨_, rfl⟩
          have hjk : (j : Int) + 1 = (k : Int) := by omega
          have hks : k ≤ S.size := by omega
          have hjle : j ≤ k := by omega
          have hex : S.extract j k = ⟨#[c]⟩ := by rw [← hk, ← hc]; exact ext_one S j hjl
          have hft : (S.data.toList.take k).filter (· ≠ 32) = (S.data.toList.take j).filter (· ≠ 32) ++ (if c = 32 then [] else [c]) := by
            rw [← hk]; exact filter_take _ _ _ (by rw [data_get S j hjl, hc])
          have HFT := Lib.hid hft
          clear hft
          by_cases h32 : c = 32
          · have q1 : ((c.toNat : Int) != 32) = false := by rw [h32]; rfl
            clear hex
            go_wp2_with fail
            go_round
            case rel => exact ⟨k, o, hks, by go_num, rfl, Lib.hid (by rw [HFT.out, if_pos h32, List.append_nil]; exact HO.out), ho2⟩
            case measure => simp [intOf]; omega
          · have q1 : ((c.toNat : Int) != 32) = true := by
              rw [bne, show ((c.toNat : Int) == 32) = false from beq_u8 h32]; rfl
            have hd : (o ++ (⟨#[c]⟩ : ByteArray)).data.toList = (S.data.toList.take k).filter (· ≠ 32) := by
              rw [HFT.out, if_neg h32, ← HO.out, ByteArray.data_append]; simp
            have hz : (o ++ (⟨#[c]⟩ : ByteArray)).size ≤ 64 := by
              have e : (o ++ (⟨#[c]⟩ : ByteArray)).size = (o ++ (⟨#[c]⟩ : ByteArray)).data.toList.length := (Array.length_toList).symm
              rw [e, hd]; exact len_le _ _ _ HSL.out
            have HD := Lib.hid hd
            have HZ := Lib.hid hz
            clear hd hz
            go_wp2_with fail
            go_round
            case rel => exact ⟨k, _, hks, by go_num, rfl, HD, HZ.out⟩
            case measure => simp [intOf]; omega
        · have hrest : Hid (o.data.toList = T.data.toList.filter (· ≠ 32)) := Lib.hid (by
            rw [HO.out, show j = S.data.toList.length by simp; omega, List.take_length]; exact HFIL.out.symm)
          clear HO hi hlt
          go_wp2_with fail
          clear hj hjl
          go_loop [14, 15, 16, 17, 144] (fun so sl _ _ si => ∃ (m : Nat) (v : UInt8) (q : ByteArray), m ≤ T.size ∧ si = .int .i64 (m : Int) ∧ so = .string q ∧ sl = .int .u8 (v.toNat : Int) ∧ Hid (q.data.toList = (T.data.toList.take m).filter (· ≠ 32) ∧ (m = 0 ∨ T.data.toList[m - 1]? = some v)) ∧ q.size ≤ 64) (fun _ _ _ _ si => T.size - (intOf si).toNat)
          case atStart => exact ⟨0, 32, ⟨#[]⟩, by omega, rfl, rfl, rfl, Lib.hid ⟨by simp, .inl rfl⟩, by decide⟩
          case round =>
            obtain ⟨m, v, q, hm, rfl, rfl, rfl, HQ, hq2⟩ := hrel
            by_cases hml : m < T.size
            · obtain ⟨c, hc⟩ : ∃ c : UInt8, T[m]'hml = c := ⟨_, rfl⟩
              obtain ⟨k, hk⟩ : ∃ k, m + 1 = k := ⟨_, rfl⟩
              have hjk : (m : Int) + 1 = (k : Int) := by omega
              have hks : k ≤ T.size := by omega
              have hjle : m ≤ k := by omega
              have hex : T.extract m k = ⟨#[c]⟩ := by rw [← hk, ← hc]; exact ext_one T m hml
              have hget : T.data.toList[m]? = some c := by rw [data_get T m hml, hc]
              have HGET := Lib.hid hget
              have hft : (T.data.toList.take k).filter (· ≠ 32) = (T.data.toList.take m).filter (· ≠ 32) ++ (if c = 32 then [] else [c]) := by
                rw [← hk]; exact filter_take _ _ _ hget
              have HFT := Lib.hid hft
              clear hft hget
              by_cases h32 : c = 32
              · have hv : v ≠ 32 := by
                  obtain ⟨g1, g2⟩ := HTOLD.out.1 m (by rw [HGET.out, h32])
                  rcases HQ.out.2 with h | h
                  · omega
                  · rw [h] at g2; exact fun e => g2 (by rw [e])
                have q1 : ((c.toNat : Int) == 32) = true := by rw [h32]; rfl
                have q2 : ((v.toNat : Int) == 32) = false := beq_u8 hv
                have q3 : ((c.toNat : Int) != 32) = false := by rw [h32]; rfl
                clear hex
                go_wp2_with fail
                go_round
                case rel => exact ⟨k, c, q, hks, by go_num, rfl, by rw [h32]; rfl, Lib.hid ⟨by rw [HFT.out, if_pos h32, List.append_nil]; exact HQ.out.1, .inr (by rw [← hk]; exact HGET.out)⟩, hq2⟩
                case measure => simp [intOf]; omega
              · have q1 : ((c.toNat : Int) == 32) = false := beq_u8 h32
                have q3 : ((c.toNat : Int) != 32) = true := by rw [bne, q1]; rfl
                have hd : (q ++ (⟨#[c]⟩ : ByteArray)).data.toList = (T.data.toList.take k).filter (· ≠ 32) := by
                  rw [HFT.out, if_neg h32, ← HQ.out.1, ByteArray.data_append]; simp
                have hz : (q ++ (⟨#[c]⟩ : ByteArray)).size ≤ 64 := by
                  have e : (q ++ (⟨#[c]⟩ : ByteArray)).size = (q ++ (⟨#[c]⟩ : ByteArray)).data.toList.length := (Array.length_toList).symm
                  rw [e, hd]; exact len_le _ _ _ HTL.out
                have HD := Lib.hid hd
                have HZ := Lib.hid hz
                clear hd hz
                go_wp2_with fail
                go_round
                case rel => exact ⟨k, c, _, hks, by go_num, rfl, rfl, Lib.hid ⟨HD.out, .inr (by rw [← hk]; exact HGET.out)⟩, HZ.out⟩
                case measure => simp [intOf]; omega
            · have hqo : q = o := by
                refine ByteArray.ext (Array.ext' ?_)
                rw [HQ.out.1, hrest.out, show m = T.data.toList.length by simp; omega, List.take_length]
              have hlast : T.toList.isEmpty = true ∨ (T.toList.isEmpty = false ∧ ((v.toNat : Int) != 32) = true) := by
                by_cases h0 : T.size = 0
                · exact .inl (by rw [size_zero h0, Lib.toList_data]; rfl)
                · refine .inr ⟨?_, ?_⟩
                  · rw [Lib.toList_data]
                    cases hl : T.data.toList with
                    | nil => exact absurd (by rw [show T.size = T.data.toList.length by simp, hl]; rfl) h0
                    | cons => rfl
                  · have hv : v ≠ 32 := by
                      rcases HTOLD.out.2 with h | h
                      · omega
                      · rcases HQ.out.2 with h' | h'
                        · omega
                        · rw [show T.size = m by omega, h'] at h; exact fun e => h (by rw [e])
                    rw [bne, show ((v.toNat : Int) == 32) = false from beq_u8 hv]; rfl
              subst hqo
              clear HQ hm hrest HTOLD HFIL HTL HSL
              have HIT := Lib.hid (fun pos => (below_alloc1 wr _ : Ext wr (wr.iter S pos)))
              have hrc := Lib.runeCount_le S
              have d1 := Lib.hid (fun w => one_len S w hS)
              have d2 := Lib.hid (fun w => num_v ((Lib.runeCount S : Int) * 1000000) w)
              have d3 := fun w => one_value S w hS (x := toNum (.text S)) _ _ _ rfl ⟨rfl, rfl, rfl⟩
              have d4 : Hid (∀ w, Calls Tryd.prog 11 #[.string S] w fun e w' => e = .returned (.agg #[.int .i64 2, .int .i64 0, .string S]) ∧ Ext w w') := Lib.hid (fun w => (vtext_yes S w hS).mono fun _ _ h => h)
              have d5 := fun w => tonum_v (.text S) w hS
              unfold RetRV RV.val at d5
              generalize (toNum (.text S)).k = zk at *
              generalize (toNum (.text S)).n = zn at *
              generalize (toNum (.text S)).s = zs at *
              have d5 : Hid (∀ w, Calls Tryd.prog 15 #[.agg #[.int .i64 2, .int .i64 0, .string S]] w fun e w' => e = .returned (.agg #[.int .i64 zk, .int .i64 zn, .string zs]) ∧ Ext w w') := Lib.hid d5
              have d3 := Lib.hid d3
              have d6 := Lib.hid (fun w => one_x S w hS)
              obtain ⟨rc, hrcc⟩ : ∃ rc, Lib.runeCount S = rc := ⟨_, rfl⟩
              rw [hrcc] at d1 d2 hrc
              go_wp2_with fail
              clear hml
              go_loopw [18] (fun n w' => ∃ (pos b acc : Nat), w' = wr.iter S pos ∧ n = .int .i64 acc ∧ acc + Lib.runeCountFrom S b pos = rc ∧ S.size ≤ pos + b ∧ acc ≤ pos ∧ acc ≤ 1000) (fun _ w' => S.size - w'.iterPos wr.heap.size)
              case atStart => exact ⟨0, S.size, 0, rfl, rfl, by rw [← hrcc]; simp [Lib.runeCount], by omega, Nat.le_refl _, by omega⟩
              case round =>
                obtain ⟨pos, b, acc, rfl, rfl, hcc, hb, ha, ha2⟩ := hrel
                by_cases hp : pos < S.size
                · have hnx : ∀ ty, (Instr.next (.pointer (some ⟨wr.heap.size, 0, none⟩)) true ty).run Tryd.prog (wr.iter S pos) = _ := fun ty => run_next_any wr S pos ty hp
                  have hwd := Lib.decode_width_pos S pos hp
                  go_wp2_with fail
                  go_roundw
                  case rel =>
                    cases b with
                    | zero => omega
                    | succ b =>
                      refine ⟨pos + (Utf8.decode S pos).2, b, acc + 1, rfl, by go_num, ?_, by omega, by omega, by omega⟩
                      rw [← hcc]
                      simp [Lib.runeCountFrom, hp]
                      omega
                  case measure =>
                    simp
                    omega
                · have hnx : ∀ ty, (Instr.next (.pointer (some ⟨wr.heap.size, 0, none⟩)) true ty).run Tryd.prog (wr.iter S pos) = _ := fun ty => run_next_end wr S pos ty hp
                  rw [Lib.runeCountFrom_end S b pos hp, Nat.add_zero] at hcc
                  subst hcc
                  have e1 : CallE Tryd.prog wr _ _ _ := fun w _ => d1.out w
                  have e2 : CallE Tryd.prog wr 14 #[.int .i64 ((acc : Int) * 1000000)] (.agg #[.int .i64 1, .int .i64 ((acc : Int) * 1000000), .string ⟨#[]⟩]) := fun w _ => d2.out w
                  have e3 : CallE Tryd.prog wr _ _ _ := fun w _ => d3.out w
                  have e4 : CallE Tryd.prog wr _ _ _ := fun w _ => d4.out w
                  have e5 : CallE Tryd.prog wr _ _ _ := fun w _ => d5.out w
                  have e6 : CallE Tryd.prog wr _ _ _ := fun w _ => d6.out w
                  have e7 : CallE Tryd.prog wr 12 #[.int .i64 2] (.agg #[.int .i64 4, .int .i64 2, .string ⟨#[]⟩]) := fun w _ => fail_v 2 w
                  have f1 := fun w => eql_value_self 1 ((acc : Int) * 1000000) ⟨#[]⟩ w
                  have f2 := fun w => eql_value_self zk zn zs w
                  have f3 := fun w => eql_value_self 4 2 ⟨#[]⟩ w
                  have hqq : (q.toList == q.toList) = true := by simp
                  have hEx : Ext wr (wr.iter S pos) := HIT.out pos
                  have hX7 : Ext W7 (wr.iter S pos) := HR1.out.trans hEx
                  have hb7 : (wr.iter S pos).heap[g5 + 1 + 1]? = some (.cells #[.int .i64 2, .int .i64 0, .string T] 24 (0, 0)) := hX7.blk HG7.out
                  have HB7 := Lib.hid hb7
                  clear hb7 hX7
                  have HEF := Lib.hid (HE7.out.trans HR1.out)
                  go_upto_region 37 with (fail)
                  clear hnx HIT
                  generalize wr.iter S pos = W9 at *
                  have b7 := ext_blk HB7.out
                  have l7 := ext_lt (blk_lt HB7.out)
                  have hr7 := Ext.refl W9
                  rcases hlast with hl1 | ⟨hl1, hl2⟩
                  · go_wp2_with (first | ((with_reducible refine (CallE.at_ (by assumption) (by assumption)).mono ?_); rintro e w' ⟨rfl, hEx⟩))
                    go_ret
                    exact ⟨rfl, HEF.out.trans (by assumption)⟩
                  · go_wp2_with (first | ((with_reducible refine (CallE.at_ (by assumption) (by assumption)).mono ?_); rintro e w' ⟨rfl, hEx⟩))
                    go_ret
                    exact ⟨rfl, HEF.out.trans (by assumption)⟩
theorem walk (s : ByteArray) (w : World) (ws : s.size ≤ 9223372036854775807) (ht : Tab w) :
    Calls Tryd.prog 5 #[.string s] w fun e w' => e = .returned (.bool true) ∧ Below w.heap.size w w' := walk0 s w ht ws
end Go.Proofs.YtmdlahkmnjmanaaDoor.textsTurns
