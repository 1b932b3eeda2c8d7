/-
  lex: IsWord, the digits' closure, run: walks. Conditions: each theorem's own.
-/
import Derived.Test.YtffogjhjgmohiaaDoorParA
import Derived.Laws.RangeString
import Derived.WalkMore
import Derived.ScopeJumps
namespace Go.Proofs.YtffogjhjgmohiaaDoor
open Go.RowKit
set_option linter.unusedVariables false
set_option linter.unusedSimpArgs false

set_option maxRecDepth 100000 in
set_option maxHeartbeats 4000000 in
theorem isword_any (c : UInt8) (w : World) : Calls Tryd.prog 36 #[.int .u8 (c.toNat : Int)] w fun e w' => e = .returned (.bool (isWrd c)) ∧ Ext w w' := by
  have hE := Ext.refl w
  have hz : c.toNat < 256 := c.toNat_lt
  unfold isWrd
  obtain ⟨z, hz'⟩ : ∃ z, c.toNat = z := ⟨_, rfl⟩
  rw [hz'] at hz ⊢
  clear hz'
  go_enter Tryd.func36, Tryd.ntmps36
  go_wp2_with fail
  all_goals go_ret
  all_goals refine ⟨congrArg (fun b => Ending.returned (Value.bool b)) ?_, hE⟩
  all_goals rw [Bool.eq_iff_iff]
  all_goals simp only [Bool.or_eq_true, Bool.and_eq_true, decide_eq_true_eq, beq_iff_eq, bne_iff_ne, Bool.not_eq_true', reduceCtorEq, true_iff, false_iff]
  all_goals omega
set_option maxRecDepth 100000 in
set_option maxHeartbeats 4000000 in
theorem isnum_any (c : UInt8) (w : World) : Calls Tryd.prog 32 #[.int .u8 (c.toNat : Int)] w fun e w' => e = .returned (.bool (isNum c)) ∧ Ext w w' := by
  have hE := Ext.refl w
  have hz : c.toNat < 256 := c.toNat_lt
  unfold isNum
  obtain ⟨z, hz'⟩ : ∃ z, c.toNat = z := ⟨_, rfl⟩
  rw [hz'] at hz ⊢
  clear hz'
  go_enter Tryd.func32, Tryd.ntmps32
  go_wp2_with fail
  all_goals go_ret
  all_goals refine ⟨congrArg (fun b => Ending.returned (Value.bool b)) ?_, hE⟩
  all_goals rw [Bool.eq_iff_iff]
  all_goals simp only [Bool.or_eq_true, Bool.and_eq_true, decide_eq_true_eq, beq_iff_eq, bne_iff_ne, Bool.not_eq_true', reduceCtorEq, true_iff, false_iff]
  all_goals omega
/-- A function of a byte that says yes or no, and writes nothing. -/
def Says (fn : Nat) (p : UInt8 → Bool) : Prop := (∀ (c : UInt8) (w : World), Calls Tryd.prog fn #[.int .u8 (c.toNat : Int)] w fun e w' => e = .returned (.bool (p c)) ∧ Ext w w') ∧ ∀ (args : Array Value) (w : World), (callFunc fn args).run Tryd.prog w = .ok (.enter fn args) w
theorem says_word : Says 36 isWrd := ⟨isword_any, enters_of Tryd.func36 (by kernel_rfl) rfl⟩
theorem says_num : Says 32 isNum := ⟨isnum_any, enters_of Tryd.func32 (by kernel_rfl) rfl⟩
theorem runN_le (p : UInt8 → Bool) (l : List UInt8) : runN p l ≤ l.length := by
  induction l with
  | nil => exact Nat.le_refl _
  | cons c l ih => unfold runN; split <;> simp only [List.length_cons] <;> omega
theorem runN_drop_no {p : UInt8 → Bool} {l : List UInt8} {k : Nat} (hk : k ≤ l.length) (h : ∀ i (hi : i < l.length), i < k → p l[i] = true) : runN p l = k + runN p (l.drop k) := by
  induction k generalizing l with
  | zero => simp
  | succ k ih =>
    cases l with
    | nil => simp at hk
    | cons c l =>
      have hc := h 0 (by simp) (by omega)
      simp only [List.getElem_cons_zero] at hc
      have := ih (l := l) (by simpa using hk) (fun i hi hik => by have := h (i + 1) (by simpa using hi) (by omega); simpa using this)
      simp only [runN, if_pos hc, List.drop_succ_cons, this]
      omega
set_option maxRecDepth 100000 in
set_option maxHeartbeats 4000000 in
theorem run_any (fn : Nat) (p : UInt8 → Bool) (hp : Says fn p) (s : ByteArray) (hs : s.size ≤ 1000000) (w : World) :
    Calls Tryd.prog 31 #[.string s, .func (.func fn) #[] #[]] w fun e w' => e = .returned (.int .i64 (runN p s.data.toList : Int)) ∧ Ext w w' := by
  have hen := hp.2
  have HP := Lib.hid hp.1
  have hsz : (s.size : Int) ≤ 1000000 := by omega
  have HLEN : Hid (s.data.toList.length = s.size) := Lib.hid (by simp)
  have hr := Ext.refl w
  have HR := Lib.hid hr
  clear hp hs hr
  go_enter Tryd.func31, Tryd.ntmps31
  go_wp2_with fail
  go_loopw [5, 8] (fun _ si wr => ∃ k : Nat, k ≤ s.size ∧ si = .int .i64 (k : Int) ∧ Hid (∀ i (hi : i < s.data.toList.length), i < k → p s.data.toList[i] = true) ∧ Hid (Ext w wr)) (fun _ si _ => s.size - (intOf si).toNat)
  case atStart => exact ⟨0, Nat.zero_le _, rfl, Lib.hid (fun i hi h => absurd h (by omega)), HR⟩
  case round =>
    obtain ⟨k, hk, rfl, HK, HX⟩ := hrel
    by_cases hkn : k = s.size
    · subst hkn
      have HV : Hid (runN p s.data.toList = s.size) := Lib.hid (by
        have := runN_drop_no (p := p) (l := s.data.toList) (k := s.size) (by rw [HLEN.out]; exact Nat.le_refl _) HK.out
        rw [this, List.drop_of_length_le (by rw [HLEN.out]; exact Nat.le_refl _)]
        rfl)
      go_wp2_with fail
      go_ret
      exact ⟨by rw [HV.out]; rfl, HX.out⟩
    have hkn' : (k : Int) < (s.size : Int) := by omega
    have hlt : k < s.size := by omega
    obtain ⟨c, hc⟩ : ∃ c, s[k] = c := ⟨_, rfl⟩
    have HCC : Hid (s.data.toList[k]? = some c) := Lib.hid (by rw [← hc, List.getElem?_eq_getElem (by rw [HLEN.out]; exact hlt)]; rfl)
    have HLT := Lib.hid hlt
    go_wp2_with fail
    refine (HP.out c wr).mono ?_
    rintro e w' ⟨rfl, hE'⟩
    have HX' := Lib.hid (HX.out.trans hE')
    clear hE'
    cases hpc : p c
    · have HV : Hid (runN p s.data.toList = k) := Lib.hid (by
        rw [runN_drop_no (p := p) (l := s.data.toList) (k := k) (by rw [HLEN.out]; exact Nat.le_of_lt HLT.out) HK.out, List.drop_eq_getElem_cons (by rw [HLEN.out]; exact HLT.out)]
        have h1 : s.data.toList[k]'(by rw [HLEN.out]; exact HLT.out) = c := Option.some.inj ((List.getElem?_eq_getElem _).symm.trans HCC.out)
        rw [h1]
        simp [runN, hpc])
      clear hc hlt hpc
      go_wp2_with fail
      go_ret
      exact ⟨by rw [HV.out]; rfl, HX'.out⟩
    · have HK' : Hid (∀ i (hi : i < s.data.toList.length), i < k + 1 → p s.data.toList[i] = true) := Lib.hid (fun i hi h => by
        by_cases hik : i = k
        · subst hik
          have h1 : s.data.toList[i] = c := Option.some.inj ((List.getElem?_eq_getElem _).symm.trans HCC.out)
          exact (congrArg p h1).trans hpc
        · exact HK.out i hi (by omega))
      clear hc hlt hpc
      go_wp2_with fail
      exact ⟨⟨k + 1, HLT.out, rfl, HK', HX'⟩, by have := HLT.out; simp [intOf]; omega⟩
/-- What the text is, from byte i on, out being what was read. -/
def TxAt (s : ByteArray) (R : List UInt8 × Nat) (i : Nat) (o : List UInt8) : Prop := (i ≤ s.size ∧ o.length ≤ i) ∧ textN (s.data.toList.drop i) false o i = R
theorem ne34 {c : UInt8} (h : (c.toNat == 34) = false) : ((c.toNat : Int) == 34) = false := by
  have h1 : c.toNat ≠ 34 := by simpa using h
  rw [beq_eq_false_iff_ne]
  omega
theorem eq34 {c : UInt8} (h : (c.toNat == 34) = true) : (c.toNat : Int) = 34 := by
  have h1 : c.toNat = 34 := by simpa using h
  omega
theorem mk_app (a b : List UInt8) : mk a ++ mk b = mk (a ++ b) := by
  apply ByteArray.ext
  apply Array.ext'
  simp [mk]
theorem ext_one {s : ByteArray} {i : Nat} {c : UInt8} (h : s.data.toList[i]? = some c) : s.extract i (i + 1) = mk [c] := by
  apply ByteArray.ext
  apply Array.ext'
  rw [ByteArray.data_extract, Array.toList_extract]
  have hi := (List.getElem?_eq_some_iff.1 h).1
  have hc := (List.getElem?_eq_some_iff.1 h).2
  show (s.data.toList.drop i).take _ = [c]
  rw [List.drop_eq_getElem_cons hi, hc]
  have : i + 1 - i = 1 := by omega
  simp [this]
theorem sl_one {s : ByteArray} {i : Nat} {c : UInt8} (h : s.data.toList[i]? = some c) (w : World) : (Instr.slice 9 (.string s) (some (.int .i64 (i : Int))) (some (.int .i64 ((i : Int) + 1))) none).run Tryd.prog w = .ok (.string (mk [c])) w := by
  have hi := (List.getElem?_eq_some_iff.1 h).1
  have hi' : i < s.size := by simpa using hi
  rw [run_slice_string w 9 s .i64 .i64 (i : Int) ((i : Int) + 1) Tryd.underlying9 (by omega) (by omega) (by omega), show ((i : Int) + 1).toNat = i + 1 by omega, show ((i : Int)).toNat = i by omega, ext_one h]
theorem ix_at {s : ByteArray} {j : Nat} {d : UInt8} (h : s.data.toList[j]? = some d) (w : World) (n : Int) (hn : n = (j : Int)) : (Instr.index 9 (.string s) (.int .i64 n)).run Tryd.prog w = .ok (.int .u8 (d.toNat : Int)) w := by
  subst hn
  have hi := (List.getElem?_eq_some_iff.1 h).1
  have hi' : j < s.size := by simpa using hi
  rw [run_index_string w 9 s .i64 (j : Int) Tryd.underlying9, dif_pos ⟨by omega, by omega⟩]
  have e : s[((j : Int)).toNat]'(by omega) = d := (List.getElem?_eq_some_iff.1 h).2
  rw [e]
theorem tx_end {s : ByteArray} {R : List UInt8 × Nat} {i : Nat} {o : List UInt8} (h : TxAt s R i o) (hi : s.size ≤ i) : R = ([], 0) := by
  rw [← h.2, List.drop_of_length_le (by simpa using hi)]
  rfl
theorem tx_go {s : ByteArray} {R : List UInt8 × Nat} {i : Nat} {o : List UInt8} {c : UInt8} (h : TxAt s R i o) (hc : s.data.toList[i]? = some c) (h34 : (c.toNat == 34) = false) : TxAt s R (i + 1) (o ++ [c]) := by
  have hi := (List.getElem?_eq_some_iff.1 hc).1
  have hi' : i < s.size := by simpa using hi
  refine ⟨⟨by omega, by have := h.1.2; simp only [List.length_append, List.length_singleton]; omega⟩, ?_⟩
  rw [← h.2, List.drop_eq_getElem_cons hi, (List.getElem?_eq_some_iff.1 hc).2]
  simp [textN, h34]
theorem tx_two {s : ByteArray} {R : List UInt8 × Nat} {i : Nat} {o : List UInt8} {c d : UInt8} (h : TxAt s R i o) (hc : s.data.toList[i]? = some c) (h34 : (c.toNat == 34) = true) (hd : s.data.toList[i + 1]? = some d) (h34' : (d.toNat == 34) = true) : TxAt s R (i + 2) (o ++ [34]) := by
  have hi := (List.getElem?_eq_some_iff.1 hc).1
  have hj := (List.getElem?_eq_some_iff.1 hd).1
  have hj' : i + 1 < s.size := by simpa using hj
  refine ⟨⟨by omega, by have := h.1.2; simp only [List.length_append, List.length_singleton]; omega⟩, ?_⟩
  rw [← h.2, List.drop_eq_getElem_cons hi, (List.getElem?_eq_some_iff.1 hc).2, List.drop_eq_getElem_cons hj, (List.getElem?_eq_some_iff.1 hd).2]
  simp [textN, h34, h34']
theorem tx_stop {s : ByteArray} {R : List UInt8 × Nat} {i : Nat} {o : List UInt8} {c : UInt8} (h : TxAt s R i o) (hc : s.data.toList[i]? = some c) (h34 : (c.toNat == 34) = true) (hd : ∀ d, s.data.toList[i + 1]? = some d → (d.toNat == 34) = false) : R = (o, i + 1) := by
  have hi := (List.getElem?_eq_some_iff.1 hc).1
  rw [← h.2, List.drop_eq_getElem_cons hi, (List.getElem?_eq_some_iff.1 hc).2]
  cases hd' : s.data.toList.drop (i + 1) with
  | nil => simp [textN, h34]
  | cons d l =>
    have e : s.data.toList[i + 1]? = some d := by
      have := congrArg List.head? hd'
      rw [List.head?_drop] at this
      simpa using this
    simp [textN, h34, hd d e]
theorem wp_scope_jumps2 {P : Program} {a : Act} {w : World} {Q : Exit → Act → World → Prop} {c rest : Code} (l : Nat) (J : Act → World → Prop) (μ : Act → World → Nat) (hf : findLabel c l = some rest)
    (pass : ∀ a w, J a w → rest.wp P (Exit.jump l (fun a' w' => J a' w' ∧ μ a' w' < μ a w) Q) a w)
    (first : (∀ a w, J a w → rest.wp P (Exit.jump l J Q) a w) → c.wp P (Exit.jump l J Q) a w) : (Code.scope c).wp P Q a w :=
  wp_scope_jumps l J μ hf (first fun a w h => Code.wp_mono (fun e a' w' h' => by
    cases e with
    | goto l' => exact ⟨h'.1, h'.2.1⟩
    | _ => exact h') (pass a w h)) pass
set_option maxRecDepth 100000 in
set_option maxHeartbeats 8000000 in
theorem text_any (s : ByteArray) (w : World) (h1 : 1 ≤ s.size) (hs : s.size ≤ 1000) (R : List UInt8 × Nat) (hR : textN (s.data.toList.drop 1) false [] 1 = R) :
    Calls Tryd.prog 33 #[.string s] w fun e w' => e = .returned (.tuple #[.string (mk R.1), .int .i64 (R.2 : Int)]) ∧ w' = w := by
  have hsz : (s.size : Int) ≤ 1000 := by omega
  have HLEN : Hid (s.data.toList.length = s.size) := Lib.hid (by simp)
  have HT : Hid (TxAt s R 1 []) := Lib.hid ⟨⟨h1, Nat.zero_le _⟩, hR⟩
  have HS := Lib.hid hs
  have HS1 := Lib.hid h1
  clear hs h1 hR
  go_enter Tryd.func33, Tryd.ntmps33
  go_wp2_with fail
  refine wp_scope_jumps2 0 (fun a' w' => w' = w ∧ ∃ (i : Nat) (o : List UInt8) (u6 u7 u8 u9 u10 u11 u12 u13 u14 u15 u16 u17 u18 u19 u20 u21 u22 u23 u24 u25 u26 u27 u28 u29 u30 u31 u32 u33 u34 u35 u36 u37 u38 u39 u40 u41 : Value), a' = { tmps := #[.string s, undef, .string ⟨#[]⟩, .int .i64 0, .string (mk o), .int .i64 (i : Int), u6, u7, u8, u9, u10, u11, u12, u13, u14, u15, u16, u17, u18, u19, u20, u21, u22, u23, u24, u25, u26, u27, u28, u29, u30, u31, u32, u33, u34, u35, u36, u37, u38, u39, u40, u41], defers := [] } ∧ Hid (TxAt s R i o)) (fun a' _ => s.size + 2 - (intOf (a'.tmps.getD 5 undef)).toNat) rfl ?_ ?_
  · rintro a' w' ⟨rfl, i, o, u6, u7, u8, u9, u10, u11, u12, u13, u14, u15, u16, u17, u18, u19, u20, u21, u22, u23, u24, u25, u26, u27, u28, u29, u30, u31, u32, u33, u34, u35, u36, u37, u38, u39, u40, u41, rfl, HT⟩
    by_cases hi : s.size ≤ i
    · have hq : (s.size : Int) ≤ (i : Int) := by omega
      have HR0 := Lib.hid (tx_end HT.out hi)
      clear hi
      go_wp2_with fail
      simp only [Exit.jump]
      refine bodyPost_ret (v := .tuple #[.string ⟨#[]⟩, .int .i64 0]) (by simp [results, Tryd.results33, go_sem]) rfl ⟨by rw [HR0.out]; rfl, rfl⟩
    have hlt : i < s.size := by omega
    have hltI : (i : Int) < (s.size : Int) := by omega
    have HLT := Lib.hid hlt
    obtain ⟨c, hcs⟩ : ∃ c, s.data.toList[i]? = some c := ⟨_, List.getElem?_eq_getElem (by rw [HLEN.out]; exact hlt)⟩
    have HCC := Lib.hid hcs
    have hc : s[i]'hlt = c := Option.some.inj ((List.getElem?_eq_getElem (by rw [HLEN.out]; exact hlt)).symm.trans hcs)
    clear hcs
    have hw1 : IntKind.i64.wrap ((i : Int) + 1) = ((i + 1 : Nat) : Int) := by rw [IntWalk.i64_in _ ⟨by omega, by omega⟩]; rfl
    cases h34 : (c.toNat == 34)
    case false =>
      have hcq : ((c.toNat : Int) != 34) = true := by rw [bne, ne34 h34]; rfl
      have HT' := Lib.hid (tx_go HT.out HCC.out h34)
      have hx : ∀ w, (Instr.slice 9 (.string s) (some (.int .i64 (i : Int))) (some (.int .i64 ((i : Int) + 1))) none).run Tryd.prog w = .ok (.string (mk [c])) w := fun w => sl_one (i := i) HCC.out w
      have hmk := mk_app o [c]
      have hz1 : (mk o).size ≤ 1000 := by rw [mk_size]; have := HT.out.1.2; omega
      have hz2 : (mk [c]).size ≤ 1000 := by rw [mk_size]; simp
      clear hi h34
      go_wp2_with fail
      go_step3
      exact ⟨rfl, ⟨rfl, i + 1, o ++ [c], _, _, _, _, _, _, _, _, _, _, _, _, _, _, _, _, _, _, _, _, _, _, _, _, _, _, _, _, _, _, _, _, _, _, _, _, rfl, HT'⟩, by have := HLT.out; simp [intOf]; omega⟩
    have hcq : ((c.toNat : Int) != 34) = false := by rw [eq34 h34]; rfl
    have HIX := Lib.hid (fun w => ix_at HCC.out w (i : Int) rfl)
    by_cases hj : s.size ≤ i + 1
    · have hjq : (s.size : Int) ≤ (i : Int) + 1 := by omega
      have HST := Lib.hid (tx_stop HT.out HCC.out h34 (fun d hd => by have h1 := (List.getElem?_eq_some_iff.1 hd).1; rw [HLEN.out] at h1; omega))
      clear hi h34 hj
      go_wp2_with fail
      simp only [Exit.jump]
      refine bodyPost_ret (v := .tuple #[.string (mk o), .int .i64 ((i : Int) + 1)]) (by simp [results, Tryd.results33, go_sem]) rfl ⟨by rw [HST.out]; rfl, rfl⟩
    have hjlt : (i : Int) + 1 < (s.size : Int) := by omega
    obtain ⟨d, hd⟩ : ∃ d, s.data.toList[i + 1]? = some d := ⟨_, List.getElem?_eq_getElem (by rw [HLEN.out]; omega)⟩
    have hix : ∀ w, (Instr.index 9 (.string s) (.int .i64 ((i : Int) + 1))).run Tryd.prog w = .ok (.int .u8 (d.toNat : Int)) w := fun w => ix_at hd w _ rfl
    have hjn : i + 1 < s.size := by omega
    have hdd : s[i + 1]'hjn = d := Option.some.inj ((List.getElem?_eq_getElem (by rw [HLEN.out]; exact hjn)).symm.trans hd)
    cases h34' : (d.toNat == 34)
    case false =>
      have hdq : ((d.toNat : Int) == 34) = false := ne34 h34'
      have HST := Lib.hid (tx_stop HT.out HCC.out h34 (fun d' hd' => by have h1 := Option.some.inj (hd.symm.trans hd'); rw [← h1]; exact h34'))
      clear hi h34 hj hd h34' hix
      go_wp2_with fail
      simp only [Exit.jump]
      refine bodyPost_ret (v := .tuple #[.string (mk o), .int .i64 ((i : Int) + 1)]) (by simp [results, Tryd.results33, go_sem]) rfl ⟨by rw [HST.out]; rfl, rfl⟩
    have hdq : ((d.toNat : Int) == 34) = true := by rw [eq34 h34']; rfl
    have HT' := Lib.hid (tx_two HT.out HCC.out h34 hd h34')
    have hmk : mk o ++ (⟨#[34]⟩ : ByteArray) = mk (o ++ [34]) := mk_app o [34]
    have hz1 : (mk o).size ≤ 1000 := by rw [mk_size]; have := HT.out.1.2; omega
    clear hi h34 hj hd h34' hix
    go_wp2_with fail
    go_step3
    exact ⟨rfl, ⟨rfl, i + 2, o ++ [34], _, _, _, _, _, _, _, _, _, _, _, _, _, _, _, _, _, _, _, _, _, _, _, _, _, _, _, _, _, _, _, _, _, _, _, _, rfl, HT'⟩, by have := HLT.out; simp [intOf]; omega⟩
  · intro _
    go_wp2_with fail
    go_step3
    rename_i K hk
    have key : ∀ F, (∃ (i : Nat) (o : List UInt8) (u6 u7 u8 u9 u10 u11 u12 u13 u14 u15 u16 u17 u18 u19 u20 u21 u22 u23 u24 u25 u26 u27 u28 u29 u30 u31 u32 u33 u34 u35 u36 u37 u38 u39 u40 u41 : Value), F = ({ tmps := #[.string s, undef, .string ⟨#[]⟩, .int .i64 0, .string (mk o), .int .i64 (i : Int), u6, u7, u8, u9, u10, u11, u12, u13, u14, u15, u16, u17, u18, u19, u20, u21, u22, u23, u24, u25, u26, u27, u28, u29, u30, u31, u32, u33, u34, u35, u36, u37, u38, u39, u40, u41], defers := [] } : Act) ∧ Hid (TxAt s R i o)) → K F w := by
      rintro F ⟨i, o, u6, u7, u8, u9, u10, u11, u12, u13, u14, u15, u16, u17, u18, u19, u20, u21, u22, u23, u24, u25, u26, u27, u28, u29, u30, u31, u32, u33, u34, u35, u36, u37, u38, u39, u40, u41, rfl, HT⟩
      refine hk _ _ ?_
      clear hk
      by_cases hi : s.size ≤ i
      · have hq : (s.size : Int) ≤ (i : Int) := by omega
        have HR0 := Lib.hid (tx_end HT.out hi)
        clear hi
        go_wp2_with fail
        simp only [Exit.jump]
        refine bodyPost_ret (v := .tuple #[.string ⟨#[]⟩, .int .i64 0]) (by simp [results, Tryd.results33, go_sem]) rfl ⟨by rw [HR0.out]; rfl, rfl⟩
      have hlt : i < s.size := by omega
      have hltI : (i : Int) < (s.size : Int) := by omega
      have HLT := Lib.hid hlt
      obtain ⟨c, hcs⟩ : ∃ c, s.data.toList[i]? = some c := ⟨_, List.getElem?_eq_getElem (by rw [HLEN.out]; exact hlt)⟩
      have HCC := Lib.hid hcs
      have hc : s[i]'hlt = c := Option.some.inj ((List.getElem?_eq_getElem (by rw [HLEN.out]; exact hlt)).symm.trans hcs)
      clear hcs
      have hw1 : IntKind.i64.wrap ((i : Int) + 1) = ((i + 1 : Nat) : Int) := by rw [IntWalk.i64_in _ ⟨by omega, by omega⟩]; rfl
      cases h34 : (c.toNat == 34)
      case false =>
        have hcq : ((c.toNat : Int) != 34) = true := by rw [bne, ne34 h34]; rfl
        have HT' := Lib.hid (tx_go HT.out HCC.out h34)
        have hx : ∀ w, (Instr.slice 9 (.string s) (some (.int .i64 (i : Int))) (some (.int .i64 ((i : Int) + 1))) none).run Tryd.prog w = .ok (.string (mk [c])) w := fun w => sl_one (i := i) HCC.out w
        have hmk := mk_app o [c]
        have hz1 : (mk o).size ≤ 1000 := by rw [mk_size]; have := HT.out.1.2; omega
        have hz2 : (mk [c]).size ≤ 1000 := by rw [mk_size]; simp
        clear hi h34
        go_wp2_with fail
        go_step3
        exact ⟨rfl, ⟨rfl, i + 1, o ++ [c], _, _, _, _, _, _, _, _, _, _, _, _, _, _, _, _, _, _, _, _, _, _, _, _, _, _, _, _, _, _, _, _, _, _, _, _, rfl, HT'⟩⟩
      have hcq : ((c.toNat : Int) != 34) = false := by rw [eq34 h34]; rfl
      have HIX := Lib.hid (fun w => ix_at HCC.out w (i : Int) rfl)
      by_cases hj : s.size ≤ i + 1
      · have hjq : (s.size : Int) ≤ (i : Int) + 1 := by omega
        have HST := Lib.hid (tx_stop HT.out HCC.out h34 (fun d hd => by have h1 := (List.getElem?_eq_some_iff.1 hd).1; rw [HLEN.out] at h1; omega))
        clear hi h34 hj
        go_wp2_with fail
        simp only [Exit.jump]
        refine bodyPost_ret (v := .tuple #[.string (mk o), .int .i64 ((i : Int) + 1)]) (by simp [results, Tryd.results33, go_sem]) rfl ⟨by rw [HST.out]; rfl, rfl⟩
      have hjlt : (i : Int) + 1 < (s.size : Int) := by omega
      obtain ⟨d, hd⟩ : ∃ d, s.data.toList[i + 1]? = some d := ⟨_, List.getElem?_eq_getElem (by rw [HLEN.out]; omega)⟩
      have hix : ∀ w, (Instr.index 9 (.string s) (.int .i64 ((i : Int) + 1))).run Tryd.prog w = .ok (.int .u8 (d.toNat : Int)) w := fun w => ix_at hd w _ rfl
      have hjn : i + 1 < s.size := by omega
      have hdd : s[i + 1]'hjn = d := Option.some.inj ((List.getElem?_eq_getElem (by rw [HLEN.out]; exact hjn)).symm.trans hd)
      cases h34' : (d.toNat == 34)
      case false =>
        have hdq : ((d.toNat : Int) == 34) = false := ne34 h34'
        have HST := Lib.hid (tx_stop HT.out HCC.out h34 (fun d' hd' => by have h1 := Option.some.inj (hd.symm.trans hd'); rw [← h1]; exact h34'))
        clear hi h34 hj hd h34' hix
        go_wp2_with fail
        simp only [Exit.jump]
        refine bodyPost_ret (v := .tuple #[.string (mk o), .int .i64 ((i : Int) + 1)]) (by simp [results, Tryd.results33, go_sem]) rfl ⟨by rw [HST.out]; rfl, rfl⟩
      have hdq : ((d.toNat : Int) == 34) = true := by rw [eq34 h34']; rfl
      have HT' := Lib.hid (tx_two HT.out HCC.out h34 hd h34')
      have hmk : mk o ++ (⟨#[34]⟩ : ByteArray) = mk (o ++ [34]) := mk_app o [34]
      have hz1 : (mk o).size ≤ 1000 := by rw [mk_size]; have := HT.out.1.2; omega
      clear hi h34 hj hd h34' hix
      go_wp2_with fail
      go_step3
      exact ⟨rfl, ⟨rfl, i + 2, o ++ [34], _, _, _, _, _, _, _, _, _, _, _, _, _, _, _, _, _, _, _, _, _, _, _, _, _, _, _, _, _, _, _, _, _, _, _, _, rfl, HT'⟩⟩
    exact key _ ⟨1, [], _, _, _, _, _, _, _, _, _, _, _, _, _, _, _, _, _, _, _, _, _, _, _, _, _, _, _, _, _, _, _, _, _, _, _, _, rfl, HT⟩
end Go.Proofs.YtffogjhjgmohiaaDoor
