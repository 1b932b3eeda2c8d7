/-
  tree: IsName: walk. Conditions: each theorem's own.
-/
import Derived.Test.YtffogjhjgmohiaaDoorTreeA
import Derived.Test.YtffogjhjgmohiaaDoorAddrH
import Derived.Laws.RangeAny
import Derived.Laws.RangeString
namespace Go.Proofs.YtffogjhjgmohiaaDoor
open Go.RowKit
set_option linter.unusedVariables false
set_option linter.unusedSimpArgs false

def IsRefP (l : List UInt8) (t : Int) : Prop := ∃ (s c r : Nat) (x y : Bool), (s < 3 ∧ c < 26 ∧ r < 99) ∧ (l = fullL s x y c r ∨ (t = (s : Int) ∧ l = bodyL x y c r))
noncomputable def isRef (l : List UInt8) (t : Int) : Bool := @decide (IsRefP l t) (Classical.propDecidable _)
theorem isRef_true {l : List UInt8} {t : Int} (h : IsRefP l t) : isRef l t = true := by unfold isRef; exact @decide_eq_true _ (Classical.propDecidable _) h
theorem isRef_false {l : List UInt8} {t : Int} (h : ¬ IsRefP l t) : isRef l t = false := by unfold isRef; exact @decide_eq_false _ (Classical.propDecidable _) h
theorem mk_self (s : ByteArray) : mk s.data.toList = s := ByteArray.ext (Array.ext' (by rw [mk_list]))
theorem parse_det (s : ByteArray) (t : Nat) (w : World) (hs : s.size ≤ 1000) (ht : t < 3) (hE : EnvP w) :
    Calls Tryd.prog 58 #[.string s, .int .i64 (t : Int)] w fun e w' => (∃ (a b c : Int) (x y : Bool), e = .returned (.tuple #[refV a b c x y, .bool (isRef s.data.toList t)])) ∧ Ext w w' := by
  by_cases h : IsRefP s.data.toList t
  · rw [isRef_true h]
    obtain ⟨s', c, r, x, y, ⟨h1, h2, h3⟩, h4 | ⟨h4, h5⟩⟩ := h
    · rw [← mk_self s, h4]
      exact (parse_full x y t s' c r w hE.max h1 h2 h3).mono fun e w' ⟨he, hw⟩ => ⟨⟨_, _, _, _, _, he⟩, hw⟩
    · rw [← mk_self s, h5]
      exact (parse_body x y t c r w hE.max ht h2 h3).mono fun e w' ⟨he, hw⟩ => ⟨⟨_, _, _, _, _, he⟩, hw⟩
  · rw [isRef_false h]
    refine (parse_sound s t w hs hE).mono fun e w' ⟨⟨ref, b, he, hS⟩, hw⟩ => ⟨?_, hw⟩
    rcases hS with ⟨rfl, rfl⟩ | ⟨rfl, s', c, r, x, y, hb, hr, hl⟩
    · exact ⟨_, _, _, _, _, he⟩
    · exact absurd ⟨s', c, r, x, y, hb, hl⟩ h
theorem drop_byte (s : ByteArray) (pos : Nat) (h : pos < s.size) : s.data.toList.drop pos = s[pos] :: s.data.toList.drop (pos + 1) := by
  rw [List.drop_eq_getElem_cons (by simpa using h)]; rfl
def okB (i : Nat) (b : UInt8) : Bool := (decide (65 ≤ b.toNat) && decide (b.toNat ≤ 90)) || (i != 0 && (b.toNat == 95 || (decide (48 ≤ b.toNat) && decide (b.toNat ≤ 57))))
def goodFrom : Nat → List UInt8 → Bool
  | _, [] => true
  | i, b :: l => okB i b && goodFrom (i + 1) l
noncomputable def isNameV (l : List UInt8) : Bool := !l.isEmpty && decide (l.length ≤ 12) && (l != [84, 82, 85, 69]) && (l != [70, 65, 76, 83, 69]) && (l != [66, 76, 65, 78, 75]) && decide (numOf l = 0) && goodFrom 0 l && !isRef l 0
set_option maxRecDepth 100000 in
set_option maxHeartbeats 4000000 in
theorem isname_any (s : ByteArray) (w : World) (hs : s.size ≤ 9223372036854775807) (ht : Tab w) (hE : EnvP w) : Calls Tryd.prog 44 #[.string s] w fun e w' => e = .returned (.bool (isNameV s.data.toList)) ∧ Ext w w' := by
  obtain ⟨nN, hnN⟩ : ∃ k, numOf s.data.toList = k := ⟨_, rfl⟩
  have HN := Lib.hid (fun w ht => number_any s w ht)
  rw [hnN] at HN
  have HNN := Lib.hid hnN
  clear hnN
  have HTAB := Lib.hid ht
  have HENV := Lib.hid hE
  have hr := Ext.refl w
  clear ht hE
  have hl0 : s.toList = s.data.toList := Lib.toList_data s
  have hlen : s.data.toList.length = s.size := by simp
  by_cases h0 : s.size = 0
  · have hl : s.data.toList = [] := List.eq_nil_of_length_eq_zero (by rw [hlen, h0])
    have HV : Hid (isNameV s.data.toList = false) := Lib.hid (by rw [hl]; rfl)
    have q0 : s.data.isEmpty = true := by rw [Array.isEmpty_iff]; exact Array.ext' (by simpa using hl)
    clear hlen
    go_enter Tryd.func44, Tryd.ntmps44
    go_wp2_with fail
    go_ret
    exact ⟨by rw [HV.out]; rfl, hr⟩
  have q0 : s.data.isEmpty = false := by
    rw [Array.isEmpty_eq_false_iff]
    intro e
    exact h0 (by show s.data.size = 0; rw [e]; rfl)
  have q00 : ¬ s.toList = [] := by
    rw [hl0]
    intro e
    rw [e] at hlen
    exact h0 hlen.symm
  have HQ0 : Hid (s.data.toList.isEmpty = false) := Lib.hid (by
    cases hl : s.data.toList with
    | nil => rw [hl] at hlen; exact absurd hlen.symm h0
    | cons => rfl)
  by_cases h12 : 12 < s.size
  · have HV : Hid (isNameV s.data.toList = false) := Lib.hid (by unfold isNameV; rw [hlen, decide_eq_false (by omega)]; simp)
    have q1 : (12 : Int) < (s.size : Int) := by omega
    clear hlen
    go_enter Tryd.func44, Tryd.ntmps44
    go_wp2_with fail
    go_ret
    exact ⟨by rw [HV.out]; rfl, hr⟩
  have q1 : (s.size : Int) ≤ 12 := by omega
  by_cases h1 : s.data.toList = [84, 82, 85, 69]
  · have HV : Hid (isNameV s.data.toList = false) := Lib.hid (by rw [h1]; rfl)
    have q2 : s.toList = [84, 82, 85, 69] := by rw [hl0, h1]
    clear hlen h12 h0 h1 hl0
    go_enter Tryd.func44, Tryd.ntmps44
    go_wp2_with fail
    go_ret
    exact ⟨by rw [HV.out]; rfl, hr⟩
  have q2 : ¬ s.toList = [84, 82, 85, 69] := by rwa [hl0]
  by_cases h2 : s.data.toList = [70, 65, 76, 83, 69]
  · have HV : Hid (isNameV s.data.toList = false) := Lib.hid (by rw [h2]; rfl)
    have q3 : s.toList = [70, 65, 76, 83, 69] := by rw [hl0, h2]
    clear hlen h12 h0 h2 hl0
    go_enter Tryd.func44, Tryd.ntmps44
    go_wp2_with fail
    go_ret
    exact ⟨by rw [HV.out]; rfl, hr⟩
  have q3 : ¬ s.toList = [70, 65, 76, 83, 69] := by rwa [hl0]
  by_cases h3 : s.data.toList = [66, 76, 65, 78, 75]
  · have HV : Hid (isNameV s.data.toList = false) := Lib.hid (by rw [h3]; rfl)
    have q4 : s.toList = [66, 76, 65, 78, 75] := by rw [hl0, h3]
    clear hlen h12 h0 h3 hl0
    go_enter Tryd.func44, Tryd.ntmps44
    go_wp2_with fail
    go_ret
    exact ⟨by rw [HV.out]; rfl, hr⟩
  have q4 : ¬ s.toList = [66, 76, 65, 78, 75] := by rwa [hl0]
  have HW : Hid (isNameV s.data.toList = (decide (numOf s.data.toList = 0) && goodFrom 0 s.data.toList && !isRef s.data.toList 0)) := Lib.hid (by
    unfold isNameV
    rw [HQ0.out, hlen, decide_eq_true (show s.size ≤ 12 by omega), bne_iff_ne.2 h1, bne_iff_ne.2 h2, bne_iff_ne.2 h3]
    simp)
  clear h1 h2 h3 HQ0 h12 h0 hlen hl0
  by_cases hn : nN = 0
  rotate_left 1
  · have HV : Hid (isNameV s.data.toList = false) := Lib.hid (by rw [HW.out, HNN.out, decide_eq_false hn]; simp)
    have q5 : (0 : Int) < (nN : Int) := by omega
    clear hn HW
    go_enter Tryd.func44, Tryd.ntmps44
    go_wp2_with fail
    refine (HN.out _ HTAB.out).mono ?_
    rintro e w1 ⟨rfl, hE1⟩
    go_wp2_with fail
    go_ret
    exact ⟨by rw [HV.out]; rfl, hE1⟩
  subst hn
  have qb0 : s.toList.isEmpty = false := by rw [List.isEmpty_eq_false_iff]; exact q00
  have qb1 : decide ((12 : Int) < (s.size : Int)) = false := by simp; omega
  have qb2 : (s.toList == [84, 82, 85, 69]) = false := by rw [beq_eq_false_iff_ne]; exact q2
  have qb3 : (s.toList == [70, 65, 76, 83, 69]) = false := by rw [beq_eq_false_iff_ne]; exact q3
  have qb4 : (s.toList == [66, 76, 65, 78, 75]) = false := by rw [beq_eq_false_iff_ne]; exact q4
  have HW2 : Hid (isNameV s.data.toList = (goodFrom 0 s.data.toList && !isRef s.data.toList 0)) := Lib.hid (by rw [HW.out, HNN.out]; simp)
  clear HW HNN
  go_enter Tryd.func44, Tryd.ntmps44
  go_wp2_with fail
  refine (HN.out _ HTAB.out).mono ?_
  rintro e w1 ⟨rfl, hE1⟩
  have HE1 := Lib.hid hE1
  have HENV1 := Lib.hid (HENV.out.ext hE1)
  clear HN HTAB HENV hr hE1
  have HIT : Hid (∀ pos, Ext w1 (w1.iter s pos)) := Lib.hid (fun pos => below_alloc1 w1 _)
  go_wp2_with fail
  go_loopw [3, 4, 5] (fun _ _ _ wr => ∃ pos : Nat, wr = w1.iter s pos ∧ pos ≤ s.size ∧ Hid (goodFrom pos (s.data.toList.drop pos) = goodFrom 0 s.data.toList)) (fun _ _ _ wr => s.size - wr.iterPos w1.heap.size)
  case atStart => exact ⟨0, rfl, by omega, Lib.hid rfl⟩
  case round =>
    obtain ⟨pos, rfl, hpos, HG⟩ := hrel
    by_cases hlt : pos < s.size
    · have hdr := drop_byte s pos hlt
      by_cases ha : s[pos].toNat < 128
      · have hnx := fun ty => run_next_ascii (P := Tryd.prog) w1 s pos ty hlt ha
        obtain ⟨c, hc⟩ : ∃ c : UInt8, s[pos] = c := ⟨_, rfl⟩
        simp only [hc] at hnx hdr ha
        clear hc
        obtain ⟨z, hz⟩ : ∃ z : Nat, c.toNat = z := ⟨_, rfl⟩
        simp only [hz] at hnx ha
        have HGN : Hid (goodFrom 0 s.data.toList = (okB pos c && goodFrom (pos + 1) (s.data.toList.drop (pos + 1)))) := Lib.hid (by rw [← HG.out, hdr]; rfl)
        have hok : okB pos c = ((decide (65 ≤ z) && decide (z ≤ 90)) || (pos != 0 && (z == 95 || (decide (48 ≤ z) && decide (z ≤ 57))))) := by unfold okB; rw [hz]
        clear hz hdr HG
        by_cases hL : 65 ≤ z ∧ z ≤ 90
        · have HS : Hid (goodFrom (pos + 1) (s.data.toList.drop (pos + 1)) = goodFrom 0 s.data.toList) := Lib.hid (by rw [HGN.out, hok, decide_eq_true hL.1, decide_eq_true hL.2]; simp)
          have t1 : (65 : Int) ≤ (z : Int) := by omega
          have t2 : (z : Int) ≤ 90 := by omega
          clear hok hL HGN
          go_wp2_with fail
          exact ⟨⟨pos + 1, rfl, by omega, HS⟩, by simp; omega⟩
        · by_cases hok2 : pos ≠ 0 ∧ (z = 95 ∨ (48 ≤ z ∧ z ≤ 57))
          · have HS : Hid (goodFrom (pos + 1) (s.data.toList.drop (pos + 1)) = goodFrom 0 s.data.toList) := Lib.hid (by
              rw [HGN.out, hok, bne_iff_ne.2 hok2.1]
              have : (z == 95 || (decide (48 ≤ z) && decide (z ≤ 57))) = true := by simp; omega
              rw [this]; simp)
            have hp0 : ((pos : Int) == 0) = false := by simp; omega
            have hp1 : ¬ ((pos : Int) = 0) := by omega
            obtain ⟨hpn, hz9 | ⟨hz4, hz5⟩⟩ := hok2
            · subst hz9
              clear hok hL HGN
              go_wp2_with fail
              exact ⟨⟨pos + 1, rfl, by omega, HS⟩, by simp; omega⟩
            · have t1 : (z : Int) < 65 := by omega
              have t2 : (48 : Int) ≤ (z : Int) := by omega
              have t3 : (z : Int) ≤ 57 := by omega
              clear hok hL HGN
              go_wp2_with fail
              exact ⟨⟨pos + 1, rfl, by omega, HS⟩, by simp; omega⟩
          · have HV : Hid (isNameV s.data.toList = false) := Lib.hid (by
              have : ((decide (65 ≤ z) && decide (z ≤ 90)) || (pos != 0 && (z == 95 || (decide (48 ≤ z) && decide (z ≤ 57))))) = false := by
                rw [Bool.eq_false_iff]
                intro e
                simp at e
                omega
              rw [HW2.out, HGN.out, hok, this]; simp)
            clear hok HGN HW2
            by_cases hp : pos = 0
            · subst hp
              by_cases hz6 : z < 65
              · have t1 : (z : Int) < 65 := by omega
                go_wp2_with fail
                go_ret
                exact ⟨by rw [HV.out]; rfl, HE1.out.trans (HIT.out _)⟩
              · have t1 : (65 : Int) ≤ (z : Int) := by omega
                have t2 : (90 : Int) < (z : Int) := by omega
                have t2' : decide ((z : Int) ≤ 90) = false := by simp; omega
                go_wp2_with fail
                go_ret
                exact ⟨by rw [HV.out]; rfl, HE1.out.trans (HIT.out _)⟩
            · have hp0 : ((pos : Int) == 0) = false := by simp; omega
              have t9 : ((z : Int) != 95) = true := by rw [bne_iff_ne]; omega
              by_cases hz6 : z < 48
              · have t1 : (z : Int) < 48 := by omega
                have t2 : (z : Int) < 65 := by omega
                go_wp2_with fail
                go_ret
                exact ⟨by rw [HV.out]; rfl, HE1.out.trans (HIT.out _)⟩
              · have t3 : (48 : Int) ≤ (z : Int) := by omega
                have t4 : (57 : Int) < (z : Int) := by omega
                by_cases hz65 : z < 65
                · have t1 : (z : Int) < 65 := by omega
                  go_wp2_with fail
                  go_ret
                  exact ⟨by rw [HV.out]; rfl, HE1.out.trans (HIT.out _)⟩
                · have t1 : (65 : Int) ≤ (z : Int) := by omega
                  have t2 : (90 : Int) < (z : Int) := by omega
                  have t2' : decide ((z : Int) ≤ 90) = false := by simp; omega
                  go_wp2_with fail
                  go_ret
                  exact ⟨by rw [HV.out]; rfl, HE1.out.trans (HIT.out _)⟩
      · have hnx := fun ty => run_next_any (P := Tryd.prog) w1 s pos ty hlt
        have hdh := decode_high s pos hlt (by omega)
        have HV : Hid (isNameV s.data.toList = false) := Lib.hid (by
          have : okB pos s[pos] = false := by
            unfold okB
            rw [Bool.eq_false_iff]
            intro e
            simp at e
            omega
          rw [HW2.out, ← HG.out, hdr]
          show (okB pos s[pos] && _ && _) = false
          rw [this]; simp)
        obtain ⟨z, hz⟩ : ∃ z, (Utf8.decode s pos).1 = z := ⟨_, rfl⟩
        obtain ⟨wd, hwd⟩ : ∃ z, (Utf8.decode s pos).2 = z := ⟨_, rfl⟩
        simp only [hz, hwd] at hnx hdh
        obtain ⟨hd1, hd2⟩ := hdh
        have t1 : (65 : Int) ≤ (z : Int) := by omega
        have t2 : (90 : Int) < (z : Int) := by omega
        have t2' : decide ((z : Int) ≤ 90) = false := by simp; omega
        have t3 : (48 : Int) ≤ (z : Int) := by omega
        have t4 : (57 : Int) < (z : Int) := by omega
        have t9 : ((z : Int) != 95) = true := by rw [bne_iff_ne]; omega
        clear hz hwd ha HW2 HG hdr
        by_cases hp : pos = 0
        · subst hp
          go_wp2_with fail
          go_ret
          exact ⟨by rw [HV.out]; rfl, HE1.out.trans (HIT.out _)⟩
        · have hp0 : ((pos : Int) == 0) = false := by simp; omega
          go_wp2_with fail
          go_ret
          exact ⟨by rw [HV.out]; rfl, HE1.out.trans (HIT.out _)⟩
    · have hnx := fun ty => run_next_end (P := Tryd.prog) w1 s pos ty hlt
      have HV : Hid (isNameV s.data.toList = !isRef s.data.toList 0) := Lib.hid (by
        rw [HW2.out, ← HG.out, List.drop_eq_nil_of_le (by show s.data.toList.length ≤ _; have : s.data.toList.length = s.size := by simp
                                                          omega)]
        simp [goodFrom])
      have HP := Lib.hid (fun w hE => parse_det s 0 w (by omega) (by omega) hE)
      clear HW2 HG
      go_wp2_with fail
      refine (HP.out _ (HENV1.out.ext (HIT.out _))).mono ?_
      rintro e w5 ⟨⟨a, b, c, x, y, rfl⟩, hE5⟩
      have HE5 := Lib.hid (HE1.out.trans ((HIT.out pos).trans hE5))
      clear hE5 hnx
      go_wp2_with fail
      go_ret
      exact ⟨by rw [HV.out]; rfl, ext_alloc HE5.out _⟩
end Go.Proofs.YtffogjhjgmohiaaDoor
