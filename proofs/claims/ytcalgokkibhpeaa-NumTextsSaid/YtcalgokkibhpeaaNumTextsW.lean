/-
  The law NumTexts: its walk. Conditions: the arguments are of their kind.
-/
import Derived.Test.YtcalgokkibhpeaaNumFit
import Derived.Test.YtcalgokkibhpeaaParseW
import Derived.Test.YtcalgokkibhpeaaRefPrintW
import Derived.Test.YtcalgokkibhpeaaArg
namespace Go.Proofs.Ytcalgokkibhpeaa
open Go.RowKit Num
set_option linter.unusedVariables false
namespace numTexts

theorem tally_app (a b : List UInt8) : ∀ s, tally (a ++ b) s = tally b (tally a s) := by
  induction a with
  | nil => intro s; rfl
  | cons c a ih => intro ⟨d, p, h⟩; simp only [List.cons_append, tally]; exact ih _
theorem tally_step {l : List UInt8} {i z d p b : Nat} (hi : i < l.length) (hz : (l.getD i 0).toNat = z) (h : tally (l.take i) (0, 0, 0) = (d, p, b)) :
    tally (l.take (i + 1)) (0, 0, 0) = if z = 46 then (d, p + 1, b) else if 48 ≤ z ∧ z ≤ 57 then (d + 1, p, if 0 < p then b + 1 else b) else (d, 9, b) := by
  have e : l.take (i + 1) = l.take i ++ [l.getD i 0] := by
    rw [List.take_succ_eq_append_getElem hi, List.getD_eq_getElem?_getD, List.getElem?_eq_getElem hi]; rfl
  rw [e, tally_app, h]
  simp only [tally, hz]

theorem tail_text {A : Int} (s : ByteArray) (hs : s.data.toList = txt A) (hA : A < 0) : (s.extract 1 s.size).data.toList = txtAbs A.natAbs := by
  have e : s.data.toList = 45 :: txtAbs A.natAbs := by rw [hs]; unfold txt; rw [if_pos hA]
  rw [Lib.extract_data, e]
  have : s.size = (45 :: txtAbs A.natAbs).length := by rw [← e]; rfl
  rw [this]; simp

theorem len_txt (A : Int) (ha : -9223372036854775807 ≤ A ∧ A ≤ 9223372036854775807) : 1 ≤ (txt A).length ∧ (txt A).length ≤ 21 := by
  have := len_txtAbs A.natAbs (by omega)
  unfold txt
  split
  · rw [List.length_cons]; omega
  · omega
theorem parse_ok (s : ByteArray) (w : World) (m : Nat) (hs : s.size ≤ 1000000000000000000) (h : parse s.data.toList = some m) :
    Calls Try.prog 21 #[.string s] w fun e w' => e = .returned (.tuple #[.int .i64 (m : Int), .bool true]) ∧ Below w.heap.size w w' :=
  (parse_any s w hs).mono fun _ _ ⟨h1, _, h3⟩ => ⟨h1 m h, h3⟩
theorem parse_not (s : ByteArray) (w : World) (hs : s.size ≤ 1000000000000000000) (h : parse s.data.toList = none) :
    Calls Try.prog 21 #[.string s] w fun e w' => e = .returned (.tuple #[.int .i64 0, .bool false]) ∧ Below w.heap.size w w' :=
  (parse_any s w hs).mono fun _ _ ⟨_, h2, h3⟩ => ⟨h2 h, h3⟩

set_option maxHeartbeats 1600000 in
theorem walk (a : Int) (b : Option Addr) (len cap : Nat) (l : List UInt8) (w : World) (wa : (Lit.int .i64 a).wf = true) (wb : BytesIn w b len l) :
    Calls Try.prog 6 #[.int .i64 a, .slice b len cap] w fun e w' => e = .returned (.bool true) ∧ Below w.heap.size w w' := by
  have ha := rt_bd a (bounds_i64 wa)
  obtain ⟨A, hA⟩ : ∃ A, rt a = A := ⟨_, rfl⟩
  rw [hA] at ha
  have HA := Lib.hid hA
  clear hA wa
  by_cases hlen : 100 < len
  · have hl : 100 < (len : Int) := by omega
    go_enter Try.func6, Try.ntmps6
    go_wp2_with fail
    refine (fit_any _).mono ?_
    rintro e w1 ⟨rfl, hb1⟩
    go_wp2_with fail
    refine (right_any a _).mono ?_
    rintro e w' ⟨rfl, rfl⟩
    rw [HA.out]
    go_wp2
    go_ret
    exact ⟨rfl, hb1⟩
  · have hl : (len : Int) ≤ 100 := by omega
    go_enter Try.func6, Try.ntmps6
    go_wp2_with fail
    refine (fit_any _).mono ?_
    rintro e w1 ⟨rfl, hb1⟩
    go_wp2_with fail
    refine (right_any a _).mono ?_
    rintro e w' ⟨rfl, rfl⟩
    rw [HA.out]
    go_wp2_with fail
    refine (print_any A _ ha).mono ?_
    rintro e w2 ⟨rfl, hb2⟩
    go_wp2_with fail
    refine (refprint_any A _ ha).mono ?_
    rintro e w3 ⟨rfl, hb3⟩
    obtain ⟨s, hs⟩ : ∃ s : ByteArray, (⟨(txt A).toArray⟩ : ByteArray) = s := ⟨_, rfl⟩
    rw [hs]
    have hls : s.data.toList = txt A := by rw [← hs]
    have hsz : 1 ≤ s.size ∧ s.size ≤ 21 := by
      have e : s.size = (txt A).length := by rw [← hls]; rfl
      rw [e]; exact len_txt A ha
    have HS := Lib.hid hls
    clear hs hls
    obtain ⟨hs1, hs21⟩ := hsz
    have hB3 : Below w.heap.size w w3 := (hb1.trans (hb2.mono hb1.size)).trans (hb3.mono (Nat.le_trans hb1.size hb2.size))
    clear hb1 hb2 hb3
    have hp : parse (txtAbs A.natAbs) = some A.natAbs := parse_txtAbs _ (by omega)
    by_cases hs0 : A < 0
    · have HP : Hid (parse (s.extract 1 s.size).data.toList = some A.natAbs) := by show _ = _; rw [tail_text s HS.out hs0]; exact hp
      have hx : (s.extract 1 s.size).size ≤ 21 := by rw [ByteArray.size_extract]; omega
      have t1 : ((A.natAbs : Int) != A) = true := by simp; omega
      have t2 : ((A.natAbs : Int) != -A) = false := by simp; omega
      clear hp
      go_wp2_with fail
      refine (parse_ok _ _ A.natAbs (by omega) HP.out).mono ?_
      rintro e w4 ⟨rfl, hb4⟩
      have hB4 : Below w.heap.size w w4 := hB3.trans (hb4.mono hB3.size)
      clear hb4
      have hbi := wb.below hB4
      have hcv := hbi.text (cap := cap)
      have hsl : (⟨l.toArray⟩ : ByteArray).size ≤ 100 := by show l.toArray.size ≤ 100; have := wb.1; simp; omega
      have ht := parse_tally l
      cases hpl : parse l with
      | some m =>
        rw [hpl] at ht
        obtain ⟨f1, f2, f3⟩ := ht.1 rfl
        clear ht
        have HPL := Lib.hid hpl
        clear hpl
        go_wp2_with fail
        refine (parse_ok _ _ m (by omega) HPL.out).mono ?_
        rintro e w5 ⟨rfl, hb5⟩
        have hB5 : Below w.heap.size w w5 := hB4.trans (hb5.mono hB4.size)
        have hbi5 := hbi.below hb5
        clear hb5 hbi hcv
        go_wp2_with fail
        go_loop [10, 11, 12, 59] (fun sd sp sb si => ∃ (i d p h : Nat), i ≤ len ∧ tally (l.take i) (0, 0, 0) = (d, p, h) ∧ d ≤ i ∧ p ≤ i + 9 ∧ h ≤ i ∧ sd = .int .i64 (d : Int) ∧ sp = .int .i64 (p : Int) ∧ sb = .int .i64 (h : Int) ∧ si = .int .i64 (i : Int)) (fun _ _ _ si => len - (intOf si).toNat)
        case atStart => exact ⟨0, 0, 0, 0, by omega, rfl, by omega, by omega, by omega, rfl, rfl, rfl, rfl⟩
        case round =>
          obtain ⟨i, d, p, h, hi, hta, hd, hp9, hh, rfl, rfl, rfl, rfl⟩ := hrel
          by_cases hlt : i < len
          · obtain ⟨blk, off, rfl, hBk, hcell⟩ := hbi5.2 (by omega)
            have hc := hcell i hlt
            have hst := tally_step (z := (l.getD i 0).toNat) (by have := wb.1; omega) rfl hta
            obtain ⟨z, hz⟩ : ∃ z : Nat, (l.getD i 0).toNat = z := ⟨_, rfl⟩
            have hz255 : z ≤ 255 := by rw [← hz]; have := UInt8.toNat_lt (l.getD i 0); omega
            rw [hz] at hc hst
            clear hz hcell hta
            by_cases c1 : z = 46
            · rw [if_pos c1] at hst
              have t46 : ((z : Int) == 46) = true := by simp; omega
              have HST := Lib.hid hst
              clear hst c1
              go_wp2
              go_round
              case rel => exact ⟨i + 1, d, p + 1, h, by omega, HST.out, by omega, by omega, by omega, rfl, by go_num, rfl, by go_num⟩
              case measure => simp [intOf]; omega
            · have t46 : ((z : Int) == 46) = false := by simp; omega
              rw [if_neg c1] at hst
              by_cases c2 : 48 ≤ z ∧ z ≤ 57
              · rw [if_pos c2] at hst
                obtain ⟨c2a, c2b⟩ := c2
                have d1 : 48 ≤ (z : Int) := by omega
                have d2 : (z : Int) ≤ 57 := by omega
                by_cases c3 : 0 < p
                · rw [if_pos c3] at hst
                  have HST := Lib.hid hst
                  have c3' : 0 < (p : Int) := by omega
                  clear hst c1
                  go_wp2
                  go_round
                  case rel => exact ⟨i + 1, d + 1, p, h + 1, by omega, HST.out, by omega, by omega, by omega, by go_num, rfl, by go_num, by go_num⟩
                  case measure => simp [intOf]; omega
                · rw [if_neg c3] at hst
                  have HST := Lib.hid hst
                  have c3' : ¬ 0 < (p : Int) := by omega
                  clear hst c1
                  go_wp2
                  go_round
                  case rel => exact ⟨i + 1, d + 1, p, h, by omega, HST.out, by omega, by omega, by omega, by go_num, rfl, rfl, by go_num⟩
                  case measure => simp [intOf]; omega
              · rw [if_neg c2] at hst
                have HST := Lib.hid hst
                clear hst c1
                by_cases d1 : 48 ≤ (z : Int)
                · have d2 : ¬ (z : Int) ≤ 57 := by omega
                  clear c2
                  go_wp2
                  go_round
                  case rel => exact ⟨i + 1, d, 9, h, by omega, HST.out, by omega, by omega, by omega, rfl, rfl, rfl, by go_num⟩
                  case measure => simp [intOf]; omega
                · clear c2
                  go_wp2
                  go_round
                  case rel => exact ⟨i + 1, d, 9, h, by omega, HST.out, by omega, by omega, by omega, rfl, rfl, rfl, by go_num⟩
                  case measure => simp [intOf]; omega
          · have hta' : tally l (0, 0, 0) = (d, p, h) := by rw [← hta, List.take_of_length_le (by have := wb.1; omega)]
            rw [hta'] at f1 f2 f3
            simp only at f1 f2 f3
            clear hta hta'
            have g1 : 0 < (d : Int) := by omega
            have g2 : (p : Int) ≤ 1 := by omega
            by_cases c0 : p = 0
            · have t0 : ((p : Int) == 0) = true := by simp; omega
              clear f3 c0
              go_wp2
              go_ret
              exact ⟨rfl, hB5⟩
            · have t0 : ((p : Int) == 0) = false := by simp; omega
              have g3 : 1 ≤ (h : Int) := by omega
              have g4 : (h : Int) ≤ 6 := by omega
              clear f3 c0
              go_wp2
              go_ret
              exact ⟨rfl, hB5⟩
      | none =>
        rw [hpl] at ht
        have HPL := Lib.hid hpl
        clear hpl
        go_wp2_with fail
        refine (parse_not _ _ (by omega) HPL.out).mono ?_
        rintro e w5 ⟨rfl, hb5⟩
        have hB5 : Below w.heap.size w w5 := hB4.trans (hb5.mono hB4.size)
        have hbi5 := hbi.below hb5
        clear hb5 hbi hcv
        have HT := Lib.hid ht
        clear ht
        go_wp2_with fail
        go_loop [10, 11, 12, 59] (fun sd sp sb si => ∃ (i d p h : Nat), i ≤ len ∧ tally (l.take i) (0, 0, 0) = (d, p, h) ∧ d ≤ i ∧ p ≤ i + 9 ∧ h ≤ i ∧ sd = .int .i64 (d : Int) ∧ sp = .int .i64 (p : Int) ∧ sb = .int .i64 (h : Int) ∧ si = .int .i64 (i : Int)) (fun _ _ _ si => len - (intOf si).toNat)
        case atStart => exact ⟨0, 0, 0, 0, by omega, rfl, by omega, by omega, by omega, rfl, rfl, rfl, rfl⟩
        case round =>
          obtain ⟨i, d, p, h, hi, hta, hd, hp9, hh, rfl, rfl, rfl, rfl⟩ := hrel
          by_cases hlt : i < len
          · obtain ⟨blk, off, rfl, hBk, hcell⟩ := hbi5.2 (by omega)
            have hc := hcell i hlt
            have hst := tally_step (z := (l.getD i 0).toNat) (by have := wb.1; omega) rfl hta
            obtain ⟨z, hz⟩ : ∃ z : Nat, (l.getD i 0).toNat = z := ⟨_, rfl⟩
            have hz255 : z ≤ 255 := by rw [← hz]; have := UInt8.toNat_lt (l.getD i 0); omega
            rw [hz] at hc hst
            clear hz hcell hta
            by_cases c1 : z = 46
            · rw [if_pos c1] at hst
              have t46 : ((z : Int) == 46) = true := by simp; omega
              have HST := Lib.hid hst
              clear hst c1
              go_wp2
              go_round
              case rel => exact ⟨i + 1, d, p + 1, h, by omega, HST.out, by omega, by omega, by omega, rfl, by go_num, rfl, by go_num⟩
              case measure => simp [intOf]; omega
            · have t46 : ((z : Int) == 46) = false := by simp; omega
              rw [if_neg c1] at hst
              by_cases c2 : 48 ≤ z ∧ z ≤ 57
              · rw [if_pos c2] at hst
                obtain ⟨c2a, c2b⟩ := c2
                have d1 : 48 ≤ (z : Int) := by omega
                have d2 : (z : Int) ≤ 57 := by omega
                by_cases c3 : 0 < p
                · rw [if_pos c3] at hst
                  have HST := Lib.hid hst
                  have c3' : 0 < (p : Int) := by omega
                  clear hst c1
                  go_wp2
                  go_round
                  case rel => exact ⟨i + 1, d + 1, p, h + 1, by omega, HST.out, by omega, by omega, by omega, by go_num, rfl, by go_num, by go_num⟩
                  case measure => simp [intOf]; omega
                · rw [if_neg c3] at hst
                  have HST := Lib.hid hst
                  have c3' : ¬ 0 < (p : Int) := by omega
                  clear hst c1
                  go_wp2
                  go_round
                  case rel => exact ⟨i + 1, d + 1, p, h, by omega, HST.out, by omega, by omega, by omega, by go_num, rfl, rfl, by go_num⟩
                  case measure => simp [intOf]; omega
              · rw [if_neg c2] at hst
                have HST := Lib.hid hst
                clear hst c1
                by_cases d1 : 48 ≤ (z : Int)
                · have d2 : ¬ (z : Int) ≤ 57 := by omega
                  clear c2
                  go_wp2
                  go_round
                  case rel => exact ⟨i + 1, d, 9, h, by omega, HST.out, by omega, by omega, by omega, rfl, rfl, rfl, by go_num⟩
                  case measure => simp [intOf]; omega
                · clear c2
                  go_wp2
                  go_round
                  case rel => exact ⟨i + 1, d, 9, h, by omega, HST.out, by omega, by omega, by omega, rfl, rfl, rfl, by go_num⟩
                  case measure => simp [intOf]; omega
          · have hta' : tally l (0, 0, 0) = (d, p, h) := by rw [← hta, List.take_of_length_le (by have := wb.1; omega)]
            have f4 := HT.out.2
            rw [hta'] at f4
            simp only at f4
            clear hta hta'
            by_cases c1 : d = 0
            · have g1 : ¬ 0 < (d : Int) := by omega
              clear f4 c1
              go_wp2
              go_ret
              exact ⟨rfl, hB5⟩
            · have g1 : 0 < (d : Int) := by omega
              by_cases c2 : 1 < p
              · have g2 : ¬ (p : Int) ≤ 1 := by omega
                clear f4 c1
                go_wp2
                go_ret
                exact ⟨rfl, hB5⟩
              · have g2 : (p : Int) ≤ 1 := by omega
                by_cases c0 : p = 0
                · have t0 : ((p : Int) == 0) = true := by simp; omega
                  have g5 : 12 < (d : Int) := by have := f4 ⟨by omega, by omega, by omega⟩ rfl; omega
                  clear f4 c0 c1
                  go_wp2
                  go_ret
                  exact ⟨rfl, hB5⟩
                · have t0 : ((p : Int) == 0) = false := by simp; omega
                  by_cases c3 : 1 ≤ h
                  · have g3 : 1 ≤ (h : Int) := by omega
                    by_cases c4 : h ≤ 6
                    · have g4 : (h : Int) ≤ 6 := by omega
                      have g5 : 12 < (d : Int) := by have := f4 ⟨by omega, by omega, by omega⟩ rfl; omega
                      clear f4 c0 c1
                      go_wp2
                      go_ret
                      exact ⟨rfl, hB5⟩
                    · have g4 : ¬ (h : Int) ≤ 6 := by omega
                      clear f4 c0 c1
                      go_wp2
                      go_ret
                      exact ⟨rfl, hB5⟩
                  · have g3 : ¬ 1 ≤ (h : Int) := by omega
                    clear f4 c0 c1
                    go_wp2
                    go_ret
                    exact ⟨rfl, hB5⟩
    · have HP : Hid (parse s.data.toList = some A.natAbs) := by show _ = _; rw [HS.out]; unfold txt; rw [if_neg hs0]; exact hp
      have t1 : ((A.natAbs : Int) != A) = false := by simp; omega
      clear hp
      go_wp2_with fail
      refine (parse_ok _ _ A.natAbs (by omega) HP.out).mono ?_
      rintro e w4 ⟨rfl, hb4⟩
      have hB4 : Below w.heap.size w w4 := hB3.trans (hb4.mono hB3.size)
      clear hb4
      have hbi := wb.below hB4
      have hcv := hbi.text (cap := cap)
      have hsl : (⟨l.toArray⟩ : ByteArray).size ≤ 100 := by show l.toArray.size ≤ 100; have := wb.1; simp; omega
      have ht := parse_tally l
      cases hpl : parse l with
      | some m =>
        rw [hpl] at ht
        obtain ⟨f1, f2, f3⟩ := ht.1 rfl
        clear ht
        have HPL := Lib.hid hpl
        clear hpl
        go_wp2_with fail
        refine (parse_ok _ _ m (by omega) HPL.out).mono ?_
        rintro e w5 ⟨rfl, hb5⟩
        have hB5 : Below w.heap.size w w5 := hB4.trans (hb5.mono hB4.size)
        have hbi5 := hbi.below hb5
        clear hb5 hbi hcv
        go_wp2_with fail
        go_loop [10, 11, 12, 59] (fun sd sp sb si => ∃ (i d p h : Nat), i ≤ len ∧ tally (l.take i) (0, 0, 0) = (d, p, h) ∧ d ≤ i ∧ p ≤ i + 9 ∧ h ≤ i ∧ sd = .int .i64 (d : Int) ∧ sp = .int .i64 (p : Int) ∧ sb = .int .i64 (h : Int) ∧ si = .int .i64 (i : Int)) (fun _ _ _ si => len - (intOf si).toNat)
        case atStart => exact ⟨0, 0, 0, 0, by omega, rfl, by omega, by omega, by omega, rfl, rfl, rfl, rfl⟩
        case round =>
          obtain ⟨i, d, p, h, hi, hta, hd, hp9, hh, rfl, rfl, rfl, rfl⟩ := hrel
          by_cases hlt : i < len
          · obtain ⟨blk, off, rfl, hBk, hcell⟩ := hbi5.2 (by omega)
            have hc := hcell i hlt
            have hst := tally_step (z := (l.getD i 0).toNat) (by have := wb.1; omega) rfl hta
            obtain ⟨z, hz⟩ : ∃ z : Nat, (l.getD i 0).toNat = z := ⟨_, rfl⟩
            have hz255 : z ≤ 255 := by rw [← hz]; have := UInt8.toNat_lt (l.getD i 0); omega
            rw [hz] at hc hst
            clear hz hcell hta
            by_cases c1 : z = 46
            · rw [if_pos c1] at hst
              have t46 : ((z : Int) == 46) = true := by simp; omega
              have HST := Lib.hid hst
              clear hst c1
              go_wp2
              go_round
              case rel => exact ⟨i + 1, d, p + 1, h, by omega, HST.out, by omega, by omega, by omega, rfl, by go_num, rfl, by go_num⟩
              case measure => simp [intOf]; omega
            · have t46 : ((z : Int) == 46) = false := by simp; omega
              rw [if_neg c1] at hst
              by_cases c2 : 48 ≤ z ∧ z ≤ 57
              · rw [if_pos c2] at hst
                obtain ⟨c2a, c2b⟩ := c2
                have d1 : 48 ≤ (z : Int) := by omega
                have d2 : (z : Int) ≤ 57 := by omega
                by_cases c3 : 0 < p
                · rw [if_pos c3] at hst
                  have HST := Lib.hid hst
                  have c3' : 0 < (p : Int) := by omega
                  clear hst c1
                  go_wp2
                  go_round
                  case rel => exact ⟨i + 1, d + 1, p, h + 1, by omega, HST.out, by omega, by omega, by omega, by go_num, rfl, by go_num, by go_num⟩
                  case measure => simp [intOf]; omega
                · rw [if_neg c3] at hst
                  have HST := Lib.hid hst
                  have c3' : ¬ 0 < (p : Int) := by omega
                  clear hst c1
                  go_wp2
                  go_round
                  case rel => exact ⟨i + 1, d + 1, p, h, by omega, HST.out, by omega, by omega, by omega, by go_num, rfl, rfl, by go_num⟩
                  case measure => simp [intOf]; omega
              · rw [if_neg c2] at hst
                have HST := Lib.hid hst
                clear hst c1
                by_cases d1 : 48 ≤ (z : Int)
                · have d2 : ¬ (z : Int) ≤ 57 := by omega
                  clear c2
                  go_wp2
                  go_round
                  case rel => exact ⟨i + 1, d, 9, h, by omega, HST.out, by omega, by omega, by omega, rfl, rfl, rfl, by go_num⟩
                  case measure => simp [intOf]; omega
                · clear c2
                  go_wp2
                  go_round
                  case rel => exact ⟨i + 1, d, 9, h, by omega, HST.out, by omega, by omega, by omega, rfl, rfl, rfl, by go_num⟩
                  case measure => simp [intOf]; omega
          · have hta' : tally l (0, 0, 0) = (d, p, h) := by rw [← hta, List.take_of_length_le (by have := wb.1; omega)]
            rw [hta'] at f1 f2 f3
            simp only at f1 f2 f3
            clear hta hta'
            have g1 : 0 < (d : Int) := by omega
            have g2 : (p : Int) ≤ 1 := by omega
            by_cases c0 : p = 0
            · have t0 : ((p : Int) == 0) = true := by simp; omega
              clear f3 c0
              go_wp2
              go_ret
              exact ⟨rfl, hB5⟩
            · have t0 : ((p : Int) == 0) = false := by simp; omega
              have g3 : 1 ≤ (h : Int) := by omega
              have g4 : (h : Int) ≤ 6 := by omega
              clear f3 c0
              go_wp2
              go_ret
              exact ⟨rfl, hB5⟩
      | none =>
        rw [hpl] at ht
        have HPL := Lib.hid hpl
        clear hpl
        go_wp2_with fail
        refine (parse_not _ _ (by omega) HPL.out).mono ?_
        rintro e w5 ⟨rfl, hb5⟩
        have hB5 : Below w.heap.size w w5 := hB4.trans (hb5.mono hB4.size)
        have hbi5 := hbi.below hb5
        clear hb5 hbi hcv
        have HT := Lib.hid ht
        clear ht
        go_wp2_with fail
        go_loop [10, 11, 12, 59] (fun sd sp sb si => ∃ (i d p h : Nat), i ≤ len ∧ tally (l.take i) (0, 0, 0) = (d, p, h) ∧ d ≤ i ∧ p ≤ i + 9 ∧ h ≤ i ∧ sd = .int .i64 (d : Int) ∧ sp = .int .i64 (p : Int) ∧ sb = .int .i64 (h : Int) ∧ si = .int .i64 (i : Int)) (fun _ _ _ si => len - (intOf si).toNat)
        case atStart => exact ⟨0, 0, 0, 0, by omega, rfl, by omega, by omega, by omega, rfl, rfl, rfl, rfl⟩
        case round =>
          obtain ⟨i, d, p, h, hi, hta, hd, hp9, hh, rfl, rfl, rfl, rfl⟩ := hrel
          by_cases hlt : i < len
          · obtain ⟨blk, off, rfl, hBk, hcell⟩ := hbi5.2 (by omega)
            have hc := hcell i hlt
            have hst := tally_step (z := (l.getD i 0).toNat) (by have := wb.1; omega) rfl hta
            obtain ⟨z, hz⟩ : ∃ z : Nat, (l.getD i 0).toNat = z := ⟨_, rfl⟩
            have hz255 : z ≤ 255 := by rw [← hz]; have := UInt8.toNat_lt (l.getD i 0); omega
            rw [hz] at hc hst
            clear hz hcell hta
            by_cases c1 : z = 46
            · rw [if_pos c1] at hst
              have t46 : ((z : Int) == 46) = true := by simp; omega
              have HST := Lib.hid hst
              clear hst c1
              go_wp2
              go_round
              case rel => exact ⟨i + 1, d, p + 1, h, by omega, HST.out, by omega, by omega, by omega, rfl, by go_num, rfl, by go_num⟩
              case measure => simp [intOf]; omega
            · have t46 : ((z : Int) == 46) = false := by simp; omega
              rw [if_neg c1] at hst
              by_cases c2 : 48 ≤ z ∧ z ≤ 57
              · rw [if_pos c2] at hst
                obtain ⟨c2a, c2b⟩ := c2
                have d1 : 48 ≤ (z : Int) := by omega
                have d2 : (z : Int) ≤ 57 := by omega
                by_cases c3 : 0 < p
                · rw [if_pos c3] at hst
                  have HST := Lib.hid hst
                  have c3' : 0 < (p : Int) := by omega
                  clear hst c1
                  go_wp2
                  go_round
                  case rel => exact ⟨i + 1, d + 1, p, h + 1, by omega, HST.out, by omega, by omega, by omega, by go_num, rfl, by go_num, by go_num⟩
                  case measure => simp [intOf]; omega
                · rw [if_neg c3] at hst
                  have HST := Lib.hid hst
                  have c3' : ¬ 0 < (p : Int) := by omega
                  clear hst c1
                  go_wp2
                  go_round
                  case rel => exact ⟨i + 1, d + 1, p, h, by omega, HST.out, by omega, by omega, by omega, by go_num, rfl, rfl, by go_num⟩
                  case measure => simp [intOf]; omega
              · rw [if_neg c2] at hst
                have HST := Lib.hid hst
                clear hst c1
                by_cases d1 : 48 ≤ (z : Int)
                · have d2 : ¬ (z : Int) ≤ 57 := by omega
                  clear c2
                  go_wp2
                  go_round
                  case rel => exact ⟨i + 1, d, 9, h, by omega, HST.out, by omega, by omega, by omega, rfl, rfl, rfl, by go_num⟩
                  case measure => simp [intOf]; omega
                · clear c2
                  go_wp2
                  go_round
                  case rel => exact ⟨i + 1, d, 9, h, by omega, HST.out, by omega, by omega, by omega, rfl, rfl, rfl, by go_num⟩
                  case measure => simp [intOf]; omega
          · have hta' : tally l (0, 0, 0) = (d, p, h) := by rw [← hta, List.take_of_length_le (by have := wb.1; omega)]
            have f4 := HT.out.2
            rw [hta'] at f4
            simp only at f4
            clear hta hta'
            by_cases c1 : d = 0
            · have g1 : ¬ 0 < (d : Int) := by omega
              clear f4 c1
              go_wp2
              go_ret
              exact ⟨rfl, hB5⟩
            · have g1 : 0 < (d : Int) := by omega
              by_cases c2 : 1 < p
              · have g2 : ¬ (p : Int) ≤ 1 := by omega
                clear f4 c1
                go_wp2
                go_ret
                exact ⟨rfl, hB5⟩
              · have g2 : (p : Int) ≤ 1 := by omega
                by_cases c0 : p = 0
                · have t0 : ((p : Int) == 0) = true := by simp; omega
                  have g5 : 12 < (d : Int) := by have := f4 ⟨by omega, by omega, by omega⟩ rfl; omega
                  clear f4 c0 c1
                  go_wp2
                  go_ret
                  exact ⟨rfl, hB5⟩
                · have t0 : ((p : Int) == 0) = false := by simp; omega
                  by_cases c3 : 1 ≤ h
                  · have g3 : 1 ≤ (h : Int) := by omega
                    by_cases c4 : h ≤ 6
                    · have g4 : (h : Int) ≤ 6 := by omega
                      have g5 : 12 < (d : Int) := by have := f4 ⟨by omega, by omega, by omega⟩ rfl; omega
                      clear f4 c0 c1
                      go_wp2
                      go_ret
                      exact ⟨rfl, hB5⟩
                    · have g4 : ¬ (h : Int) ≤ 6 := by omega
                      clear f4 c0 c1
                      go_wp2
                      go_ret
                      exact ⟨rfl, hB5⟩
                  · have g3 : ¬ 1 ≤ (h : Int) := by omega
                    clear f4 c0 c1
                    go_wp2
                    go_ret
                    exact ⟨rfl, hB5⟩
end numTexts
end Go.Proofs.Ytcalgokkibhpeaa
