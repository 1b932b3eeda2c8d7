/-
  addr.Parse at any text: what it leans on, its callees' contracts, and the plain law of what it takes. Conditions: each theorem's own.
-/
import Derived.Test.YtffogjhjgmohiaaDoorAddrB
import Derived.Lib.AtoiAllCases
import Derived.Lib.AppendIntMem
import Derived.WalkSmall
namespace Go.Proofs.YtffogjhjgmohiaaDoor
open Go.RowKit
set_option linter.unusedVariables false
set_option linter.unusedSimpArgs false

/-- What Parse leans on: bytealg.MaxLen is a number, the table of powers of ten, the two errors. -/
structure EnvP (w : World) : Prop where
  max : MaxI w
  pow : Lib.TabIs Tryd.prog w "internal/strconv.uint64pow10" .u64 Lib.pow10Tab
  esx : ∃ tp p, w.var? Tryd.prog "strconv.ErrSyntax" = some #[.iface tp p]
  erg : ∃ tp p, w.var? Tryd.prog "strconv.ErrRange" = some #[.iface tp p]
theorem gPow : Tryd.prog.globalNamed "internal/strconv.uint64pow10" = some 6 := by kernel_rfl
theorem gEsx : Tryd.prog.globalNamed "strconv.ErrSyntax" = some 4 := by kernel_rfl
theorem gErg : Tryd.prog.globalNamed "strconv.ErrRange" = some 5 := by kernel_rfl
theorem var_ext {W w : World} {n : String} {g : Nat} {v : Value} {vs : Array Value} (hE : Ext W w) (hg : Tryd.prog.globalNamed n = some g) (hv : W.var? Tryd.prog n = some vs) (h0 : vs[0]? = some v) : w.var? Tryd.prog n = some vs :=
  var?_below hE hg (World.block_lt_of_cell? _ _ ((World.var?_cell hg hv 0).trans h0)) hv
theorem EnvP.ext {W w : World} (h : EnvP W) (hE : Ext W w) : EnvP w := by
  obtain ⟨h1, h2, ⟨a, b, h3⟩, c, d, h4⟩ := h
  exact ⟨h1.ext hE, var_ext hE gPow h2 (v := .int .u64 1) (by rfl), ⟨a, b, var_ext hE gEsx h3 rfl⟩, c, d, var_ext hE gErg h4 rfl⟩
theorem cut_spec (l : List UInt8) : (∃ a b, Lib.cut l [33] = (a, b, true) ∧ l = a ++ 33 :: b) ∨ Lib.cut l [33] = (l, [], false) := by
  rcases Lib.index_spec l [33] with ⟨h, -⟩ | ⟨i, h, hi, ho, -⟩
  · right
    unfold Lib.cut
    rw [h, if_neg (by decide)]
  · left
    refine ⟨l.take i, l.drop (i + 1), ?_, ?_⟩
    · unfold Lib.cut
      rw [h, if_pos (by omega), Int.toNat_natCast]
      rfl
    · have h1 : [33].isPrefixOf (l.drop i) = true := ho
      cases hd : l.drop i with
      | nil => rw [hd] at h1; cases h1
      | cons b r =>
        rw [hd] at h1
        have hb : b = 33 := by simp [List.isPrefixOf] at h1; exact h1.symm
        have hr : l.drop (i + 1) = r := by rw [← List.drop_drop, hd]; rfl
        rw [hr, ← hb, ← hd, List.take_append_drop]
theorem pre_spec (l : List UInt8) : l = dol (Lib.hasPrefix l [36]) ++ Lib.trimPrefix l [36] := by
  unfold Lib.trimPrefix
  cases h : Lib.hasPrefix l [36]
  · rfl
  · have h1 : [36].isPrefixOf l = true := h
    cases l with
    | nil => cases h1
    | cons b r =>
      have hb : b = 36 := by simp [List.isPrefixOf] at h1; exact h1.symm
      rw [hb]; rfl
theorem atoiAny (s : ByteArray) (hs : s.size ≤ 1000) : ∃ (n : Int) (ok : Bool), (ok = true → -9223372036854775808 ≤ n ∧ n ≤ 9223372036854775807) ∧ ∀ w, EnvP w →
    Calls Tryd.prog 67 #[.string s] w fun e w' => (∃ er, e = .returned (.tuple #[.int .i64 n, er]) ∧ if ok then er = .nilIface else ∃ t p, er = .iface t p) ∧ Ext w w' := by
  cases h : Lib.atoiAll s.data.toList with
  | ok v =>
    refine ⟨v, true, fun _ => Lib.atoiAll_bounds h, fun w _ => ?_⟩
    refine (Tryd.strconv_Atoi_ok s (by omega) v h w).mono fun e w' ⟨he, hw⟩ => ⟨⟨_, he, rfl⟩, ?_⟩
    rcases hw with rfl | ⟨t, rfl⟩
    · exact Ext.refl _
    · exact Lib.bytesWorld_below w 5 t
  | range =>
    refine ⟨Lib.atoiSat s.data.toList, false, (fun h => by cases h), fun w hE => ?_⟩
    obtain ⟨tp, p, hv⟩ := hE.erg
    exact (Tryd.strconv_Atoi_range_var s (by omega) h tp p w hv).mono fun e w' ⟨N, he, _, _, hb⟩ => ⟨⟨_, he, _, _, rfl⟩, hb⟩
  | _ =>
    refine ⟨0, false, (fun h => by cases h), fun w hE => ?_⟩
    obtain ⟨tp, p, hv⟩ := hE.esx
    exact (Tryd.strconv_Atoi_syntax_var s (by omega) h tp p w hv).mono fun e w' ⟨N, he, _, _, hb⟩ => ⟨⟨_, he, _, _, rfl⟩, hb⟩
theorem itoaAny (n : Int) (h0 : -9223372036854775808 ≤ n) (h1 : n ≤ 9223372036854775807) (w : World) (hE : EnvP w) :
    Calls Tryd.prog 68 #[.int .i64 n] w fun e w' => e = .returned (.string (mk (Lib.itoa n))) ∧ Ext w w' :=
  (Tryd.strconv_Itoa n h0 h1 w hE.pow).mono fun e w' ⟨he, k, os, hw⟩ => ⟨he, hw ▸ Lib.below_grow _ w (Nat.le_refl _) k os⟩
theorem head_tail {S : ByteArray} {b : UInt8} (h : 0 < S.size) (hb : S[0]'h = b) : S.data.toList = b :: (S.extract 1 S.size).data.toList := by
  obtain ⟨⟨l⟩⟩ := S
  cases l with
  | nil => exact absurd (show 0 < 0 from h) (by omega)
  | cons a r =>
    have : a = b := hb
    rw [this, ByteArray.data_extract]
    show b :: r = b :: (((b :: r).toArray).extract 1 (r.length + 1)).toList
    simp
theorem two_bytes {S : ByteArray} {a b : UInt8} (h : S.size = 2) (h0 : S[0]'(by omega) = a) (h1 : S[1]'(by omega) = b) : S.data.toList = [a, b] := by
  obtain ⟨⟨l⟩⟩ := S
  match l, h with
  | [u, v], _ =>
    have e0 : u = a := h0
    have e1 : v = b := h1
    rw [e0, e1]
/-- What Parse says is so. -/
def Snd (l : List UInt8) (t : Int) (ref : Value) (b : Bool) : Prop :=
  (b = false ∧ ref = refV 0 0 0 false false) ∨ (b = true ∧ ∃ (s c r : Nat) (x y : Bool), (s < 3 ∧ c < 26 ∧ r < 99) ∧ ref = refV s c r x y ∧ (l = fullL s x y c r ∨ (t = (s : Int) ∧ l = bodyL x y c r)))
theorem snd_of {l l1 l2 l3 l4 hd : List UInt8} {t n : Int} {full x y : Bool} {s c r : Nat} (hs : s < 3) (hc : c < 26) (hr : r < 99)
    (h0 : if full then l = hd ++ 33 :: l1 else l = l1) (h1 : l1 = dol x ++ l2) (h2 : l2 = colB c :: l3) (h3 : l3 = dol y ++ l4) (h4 : l4 = Lib.itoa n) (hn : n = ((r + 1 : Nat) : Int))
    (hh : full = true → hd = [83, UInt8.ofNat (49 + s)]) (ht : full = false → t = (s : Int)) : Snd l t (refV s c r x y) true := by
  have hb : l1 = bodyL x y c r := by
    have hd : Lib.itoa n = D2 (r + 1) := by
      unfold Lib.itoa
      rw [hn, if_neg (by omega), Int.toNat_natCast, dec2 _ (by omega)]
    rw [h1, h2, h3, h4, hd]; rfl
  refine .inr ⟨rfl, s, c, r, x, y, ⟨hs, hc, hr⟩, rfl, ?_⟩
  cases full
  · exact .inr ⟨ht rfl, by rw [← hb]; exact h0⟩
  · refine .inl ?_
    have h0' : l = hd ++ 33 :: l1 := h0
    rw [h0', hh rfl, hb]; rfl
set_option maxRecDepth 100000 in
set_option maxHeartbeats 8000000 in
/-- Parse, step by step: what its callees hand back told ahead. -/
theorem parse_core2 (S0 S1 S2 S3 S4 head T : ByteArray) (full x y ok : Bool) (t n : Int) (w : World) (hm : EnvP w)
    (hcut : ∀ w, MaxI w → Calls Tryd.prog 65 #[.string S0, .string ⟨#[33]⟩] w fun e w' => e = .returned (.tuple #[.string head, .string S1, .bool full]) ∧ Ext w w')
    (hp1 : ∀ w, Calls Tryd.prog 66 #[.string (if full then S1 else S0), .string ⟨#[36]⟩] w fun e w' => e = .returned (.tuple #[.string S2, .bool x]) ∧ w' = w)
    (hp2 : ∀ w, Calls Tryd.prog 66 #[.string S3, .string ⟨#[36]⟩] w fun e w' => e = .returned (.tuple #[.string S4, .bool y]) ∧ w' = w)
    (hat : ∀ w, EnvP w → Calls Tryd.prog 67 #[.string S4] w fun e w' => (∃ er, e = .returned (.tuple #[.int .i64 n, er]) ∧ if ok then er = .nilIface else ∃ t p, er = .iface t p) ∧ Ext w w')
    (hit : ok = true → ∀ w, EnvP w → Calls Tryd.prog 68 #[.int .i64 n] w fun e w' => e = .returned (.string T) ∧ Ext w w')
    (h23 : S2.extract 1 S2.size = S3) (hS2 : S2.size ≤ 1000) (hhd : head.size ≤ 1000)
    (Q : Value → Bool → Prop) (hF : Q (refV 0 0 0 false false) false)
    (hT : ∀ s c r : Nat, s < 3 → c < 26 → r < 99 → S2.data.toList = colB c :: S3.data.toList → T = S4 → n = ((r + 1 : Nat) : Int) → (full = true → head.data.toList = [83, UInt8.ofNat (49 + s)]) → (full = false → t = (s : Int)) → Q (refV s c r x y) true) :
    Calls Tryd.prog 58 #[.string S0, .int .i64 t] w fun e w' => (∃ ref b, e = .returned (.tuple #[ref, .bool b]) ∧ Q ref b) ∧ Ext w w' := by
  obtain ⟨W1, hW1, hE1, hG1, hL1, hS1⟩ := new_blk w #[.int .i64 0, .int .i64 0, .int .i64 0, .bool false, .bool false] 30
  obtain ⟨W2, hW2, hE2, hG2, hL2, hS2'⟩ := new_blk W1 #[.int .i64 t, .int .i64 0, .int .i64 0, .bool false, .bool false] 30
  rw [hS1] at hG2
  have HW1 := Lib.hid hW1
  have HW2 := Lib.hid hW2
  have HG1 := Lib.hid hG1
  have HG2 := Lib.hid hG2
  have HE1 := Lib.hid hE1
  have HE2 := Lib.hid hE2
  have HS1 := Lib.hid hS1
  have HENV := Lib.hid hm
  have HCUT := Lib.hid hcut
  have HP1 := Lib.hid hp1
  have HP2 := Lib.hid hp2
  have HAT := Lib.hid hat
  have HIT := Lib.hid hit
  have HF := Lib.hid hF
  have HT := Lib.hid hT
  clear hW1 hW2 hE1 hE2 hG1 hG2 hL1 hL2 hS1 hS2' hcut hp1 hp2 hat hit hT hF hm
  have FAIL : Hid (∀ (W : World) (a : Act), a.tmps.getD 4 undef = .pointer (some ⟨w.heap.size, 0, none⟩) → a.tmps.getD 5 undef = .bool false → a.defers = [] → Ext w W → W.heap[w.heap.size]? = some (.cells #[.int .i64 0, .int .i64 0, .int .i64 0, .bool false, .bool false] 30 (0, 0)) →
      bodyPost Tryd.prog Tryd.f58 (fun e w' => (∃ ref b, e = .returned (.tuple #[ref, .bool b]) ∧ Q ref b) ∧ Ext w w') Exit.ret a W) := Lib.hid (by
    intro W a h4 h5 hd hE hg
    have b9 := ext_blk hg W (Ext.refl _)
    rw [Array.getD_eq_getD_getElem?] at h4 h5
    refine bodyPost_ret (v := .tuple #[refV 0 0 0 false false, .bool false]) ?_ hd ⟨⟨_, _, rfl, HF.out⟩, hE⟩
    simp [results, Tryd.results58, go_sem, h4, h5, b9])
  cases full
  · go_enter Tryd.func58, Tryd.ntmps58
    go_wp2_with fail
    rw [HW1.out, HW2.out]
    refine (HCUT.out _ (HENV.out.max.ext (HE1.out.trans HE2.out))).mono ?_
    rintro e w3 ⟨rfl, hE3⟩
    have HR3 := Lib.hid (hE3.blk HG2.out)
    have HE3 := Lib.hid (HE2.out.trans hE3)
    clear hE3 HW1 HW2
    go_wp2_with fail
    refine (HP1.out _).mono ?_
    rintro e w' ⟨rfl, hw'⟩
    rw [hw']
    clear hw' w'
    have hc3 := cell_of_row w3 _ 3 _ _ _ HR3.out
    have hf3 := frozen_of_row w3 _ 3 _ _ HR3.out
    simp only [List.getElem?_toArray, List.getElem?_cons_zero, List.getElem?_cons_succ] at hc3
    go_upto_region 9 with (fail)
    obtain ⟨W4, hW4⟩ : ∃ W4, w3.setCell ⟨w.heap.size + 1, 3, none⟩ (.bool x) = W4 := ⟨_, rfl⟩
    have hg5 : W4.heap[w.heap.size + 1]? = some (.cells #[.int .i64 t, .int .i64 0, .int .i64 0, .bool x, .bool false] 30 (0, 0)) := by
      rw [← hW4]
      simp (disch := omega) only [hq_put, HR3.out, Option.map_some, setIn_cells]
      rfl
    have hE4 : Ext W1 W4 := by
      rw [← hW4]
      exact ext_set HE3.out (by show W1.heap.size ≤ w.heap.size + 1; rw [HS1.out]; exact Nat.le_refl _)
    rw [hW4]
    have HR4 := Lib.hid hg5
    have HE4 := Lib.hid hE4
    clear hW4 hc3 hf3 hg5 hE4
    by_cases h2 : S2.size = 0
    · have hne : S2.toList.isEmpty = true := by
        rw [Lib.toList_data]
        cases hl : S2.data.toList with
        | nil => rfl
        | cons a b => exfalso; have : S2.size = S2.data.toList.length := by simp
                      rw [hl] at this; simp at this; omega
      have hg4 := HE4.out.blk HG1.out
      go_wp2_with (first | ((with_reducible refine wpl_guard (isStore 30) ?_ ?_); (· rfl); refine wpl_store (t := ?_) (old := ?_) (w' := ?_) rfl 30 _ _ rfl rfl rfl ?_ ?_ ?_ ?_ ?_ ?_; rotate_left 2; (· (first | (with_reducible assumption) | (simp (disch := (first | omega | (simp only [World.size_alloc, World.size_setCell, World.size_drew, size_setRow]; done) | (simp only [World.size_alloc, World.size_setCell, World.size_drew, size_setRow]; omega))) only [hq_at, hq_past, hq_drew, hq_drewN, hq_cell, hq_row, hq_same, rowOf_cells, Option.map_some, *]; rfl) | (simp (disch := (first | omega | (simp only [World.size_alloc, World.size_setCell, World.size_drew, size_setRow]; done) | (simp only [World.size_alloc, World.size_setCell, World.size_drew, size_setRow]; omega))) only [hq_at, hq_past, hq_drew, hq_drewN, hq_cell, hq_row, hq_same, rowOf_cells, Option.map_some, *]))); (· kernel_rfl); (· rfl); (· rfl); rotate_left 1; (· (first | (simp (disch := (first | omega | (simp only [World.size_alloc, World.size_setCell, World.size_drew, size_setRow]; done) | (simp only [World.size_alloc, World.size_setCell, World.size_drew, size_setRow]; omega))) only [setRow_at, setRow_past, setRow_drew]; rfl) | rfl))))
      obtain ⟨W9, hW9, hE9, hG9⟩ := put_blk (W := w) (HE1.out.trans HE4.out) (Nat.le_refl _) hg4 #[.int .i64 0, .int .i64 0, .int .i64 0, .bool false, .bool false]
      rw [hW9]
      exact FAIL.out _ _ rfl rfl rfl hE9 hG9
    have h2' : 0 < S2.size := by omega
    have hne : S2.toList.isEmpty = false := by
      rw [Lib.toList_data]
      cases hl : S2.data.toList with
      | nil => exact absurd h2' (by rw [show S2.size = S2.data.toList.length by simp, hl]; simp)
      | cons => rfl
    obtain ⟨b0, hb0⟩ : ∃ b0, S2[0]'h2' = b0 := ⟨_, rfl⟩
    have hb255 : b0.toNat < 256 := b0.toNat_lt
    clear h2
    by_cases hlo : b0.toNat < 65
    · have q1 : (b0.toNat : Int) < 65 := by omega
      have hg4 := HE4.out.blk HG1.out
      go_wp2_with (first | ((with_reducible refine wpl_guard (isStore 30) ?_ ?_); (· rfl); refine wpl_store (t := ?_) (old := ?_) (w' := ?_) rfl 30 _ _ rfl rfl rfl ?_ ?_ ?_ ?_ ?_ ?_; rotate_left 2; (· (first | (with_reducible assumption) | (simp (disch := (first | omega | (simp only [World.size_alloc, World.size_setCell, World.size_drew, size_setRow]; done) | (simp only [World.size_alloc, World.size_setCell, World.size_drew, size_setRow]; omega))) only [hq_at, hq_past, hq_drew, hq_drewN, hq_cell, hq_row, hq_same, rowOf_cells, Option.map_some, *]; rfl) | (simp (disch := (first | omega | (simp only [World.size_alloc, World.size_setCell, World.size_drew, size_setRow]; done) | (simp only [World.size_alloc, World.size_setCell, World.size_drew, size_setRow]; omega))) only [hq_at, hq_past, hq_drew, hq_drewN, hq_cell, hq_row, hq_same, rowOf_cells, Option.map_some, *]))); (· kernel_rfl); (· rfl); (· rfl); rotate_left 1; (· (first | (simp (disch := (first | omega | (simp only [World.size_alloc, World.size_setCell, World.size_drew, size_setRow]; done) | (simp only [World.size_alloc, World.size_setCell, World.size_drew, size_setRow]; omega))) only [setRow_at, setRow_past, setRow_drew]; rfl) | rfl))))
      obtain ⟨W9, hW9, hE9, hG9⟩ := put_blk (W := w) (HE1.out.trans HE4.out) (Nat.le_refl _) hg4 #[.int .i64 0, .int .i64 0, .int .i64 0, .bool false, .bool false]
      rw [hW9]
      exact FAIL.out _ _ rfl rfl rfl hE9 hG9
    by_cases hhi : 90 < b0.toNat
    · have q1 : (65 : Int) ≤ (b0.toNat : Int) := by omega
      have q2 : (90 : Int) < (b0.toNat : Int) := by omega
      have hg4 := HE4.out.blk HG1.out
      go_wp2_with (first | ((with_reducible refine wpl_guard (isStore 30) ?_ ?_); (· rfl); refine wpl_store (t := ?_) (old := ?_) (w' := ?_) rfl 30 _ _ rfl rfl rfl ?_ ?_ ?_ ?_ ?_ ?_; rotate_left 2; (· (first | (with_reducible assumption) | (simp (disch := (first | omega | (simp only [World.size_alloc, World.size_setCell, World.size_drew, size_setRow]; done) | (simp only [World.size_alloc, World.size_setCell, World.size_drew, size_setRow]; omega))) only [hq_at, hq_past, hq_drew, hq_drewN, hq_cell, hq_row, hq_same, rowOf_cells, Option.map_some, *]; rfl) | (simp (disch := (first | omega | (simp only [World.size_alloc, World.size_setCell, World.size_drew, size_setRow]; done) | (simp only [World.size_alloc, World.size_setCell, World.size_drew, size_setRow]; omega))) only [hq_at, hq_past, hq_drew, hq_drewN, hq_cell, hq_row, hq_same, rowOf_cells, Option.map_some, *]))); (· kernel_rfl); (· rfl); (· rfl); rotate_left 1; (· (first | (simp (disch := (first | omega | (simp only [World.size_alloc, World.size_setCell, World.size_drew, size_setRow]; done) | (simp only [World.size_alloc, World.size_setCell, World.size_drew, size_setRow]; omega))) only [setRow_at, setRow_past, setRow_drew]; rfl) | rfl))))
      obtain ⟨W9, hW9, hE9, hG9⟩ := put_blk (W := w) (HE1.out.trans HE4.out) (Nat.le_refl _) hg4 #[.int .i64 0, .int .i64 0, .int .i64 0, .bool false, .bool false]
      rw [hW9]
      exact FAIL.out _ _ rfl rfl rfl hE9 hG9
    obtain ⟨c, hc⟩ : ∃ c, b0.toNat - 65 = c := ⟨_, rfl⟩
    have hc26 : c < 26 := by omega
    have hb1 : (b0.toNat : Int) - 65 = (c : Int) := by omega
    have hb2 : (65 : Int) ≤ (b0.toNat : Int) := by omega
    have hb3 : (b0.toNat : Int) ≤ 90 := by omega
    have HC : Hid (b0 = colB c) := Lib.hid (UInt8.toNat.inj (by rw [colB_nat hc26]; omega))
    clear hlo hhi hc hb255
    have hc1 := cell_of_row W4 _ 1 _ _ _ HR4.out
    have hc4 := cell_of_row W4 _ 4 _ _ _ HR4.out
    have hf1 := frozen_of_row W4 _ 1 _ _ HR4.out
    have hf4 := frozen_of_row W4 _ 4 _ _ HR4.out
    simp only [List.getElem?_toArray, List.getElem?_cons_zero, List.getElem?_cons_succ] at hc1 hc4
    go_wp2_with fail
    refine (HP2.out _).mono ?_
    rintro e w' ⟨rfl, hw'⟩
    rw [hw']
    clear hw' w'
    go_upto_region 13 with (fail)
    obtain ⟨W5, hW5⟩ : ∃ W5, (W4.setCell ⟨w.heap.size + 1, 1, none⟩ (.int .i64 (c : Int))).setCell ⟨w.heap.size + 1, 4, none⟩ (.bool y) = W5 := ⟨_, rfl⟩
    have hg5 : W5.heap[w.heap.size + 1]? = some (.cells #[.int .i64 t, .int .i64 (c : Int), .int .i64 0, .bool x, .bool y] 30 (0, 0)) := by
      rw [← hW5]
      simp (disch := omega) only [hq_put, HR4.out, Option.map_some, setIn_cells]
      rfl
    have hE5 : Ext W1 W5 := by
      rw [← hW5]
      have h1 : W1.heap.size ≤ w.heap.size + 1 := by rw [HS1.out]; exact Nat.le_refl _
      exact ext_set (ext_set HE4.out h1) h1
    rw [hW5]
    have HR5 := Lib.hid hg5
    have HE5 := Lib.hid hE5
    have HENV5 := Lib.hid (HENV.out.ext (HE1.out.trans hE5))
    clear hW5 hc1 hf1 hc4 hf4 hg5 hE5 hne hb1 hb2 hb3
    go_wp2_with fail
    refine (HAT.out _ HENV5.out).mono ?_
    rintro e w6 ⟨⟨er, rfl, her⟩, hE6⟩
    cases ok
    · obtain ⟨te, pe, rfl⟩ := her
      have HE6 := Lib.hid (HE5.out.trans hE6)
      clear hE6
      have hg4 := HE6.out.blk HG1.out
      go_wp2_with (first | ((with_reducible refine wpl_guard (isStore 30) ?_ ?_); (· rfl); refine wpl_store (t := ?_) (old := ?_) (w' := ?_) rfl 30 _ _ rfl rfl rfl ?_ ?_ ?_ ?_ ?_ ?_; rotate_left 2; (· (first | (with_reducible assumption) | (simp (disch := (first | omega | (simp only [World.size_alloc, World.size_setCell, World.size_drew, size_setRow]; done) | (simp only [World.size_alloc, World.size_setCell, World.size_drew, size_setRow]; omega))) only [hq_at, hq_past, hq_drew, hq_drewN, hq_cell, hq_row, hq_same, rowOf_cells, Option.map_some, *]; rfl) | (simp (disch := (first | omega | (simp only [World.size_alloc, World.size_setCell, World.size_drew, size_setRow]; done) | (simp only [World.size_alloc, World.size_setCell, World.size_drew, size_setRow]; omega))) only [hq_at, hq_past, hq_drew, hq_drewN, hq_cell, hq_row, hq_same, rowOf_cells, Option.map_some, *]))); (· kernel_rfl); (· rfl); (· rfl); rotate_left 1; (· (first | (simp (disch := (first | omega | (simp only [World.size_alloc, World.size_setCell, World.size_drew, size_setRow]; done) | (simp only [World.size_alloc, World.size_setCell, World.size_drew, size_setRow]; omega))) only [setRow_at, setRow_past, setRow_drew]; rfl) | rfl))))
      obtain ⟨W9, hW9, hE9, hG9⟩ := put_blk (W := w) (HE1.out.trans HE6.out) (Nat.le_refl _) hg4 #[.int .i64 0, .int .i64 0, .int .i64 0, .bool false, .bool false]
      rw [hW9]
      exact FAIL.out _ _ rfl rfl rfl hE9 hG9
    obtain rfl : er = .nilIface := her
    have HENV6 := Lib.hid (HENV5.out.ext hE6)
    have HR6 := Lib.hid (hE6.blk HR5.out)
    have HE6 := Lib.hid (HE5.out.trans hE6)
    clear hE6
    go_wp2_with fail
    refine (HIT.out trivial _ HENV6.out).mono ?_
    rintro e w7 ⟨rfl, hE7⟩
    have HR7 := Lib.hid (hE7.blk HR6.out)
    have HE7 := Lib.hid (HE6.out.trans hE7)
    clear hE7
    by_cases hTS : T = S4
    rotate_left 1
    · have hne2 : (T.toList != S4.toList) = true := by
        rw [bne_iff_ne]
        intro e
        refine hTS ?_
        rw [Lib.toList_data, Lib.toList_data] at e
        exact ByteArray.ext (Array.ext' e)
      have hne3 : ¬ (T.toList = S4.toList) := by rwa [bne_iff_ne] at hne2
      have hne4 : (T.toList == S4.toList) = false := by rw [beq_eq_false_iff_ne]; exact hne3
      have hg4 := HE7.out.blk HG1.out
      go_wp2_with (first | ((with_reducible refine wpl_guard (isStore 30) ?_ ?_); (· rfl); refine wpl_store (t := ?_) (old := ?_) (w' := ?_) rfl 30 _ _ rfl rfl rfl ?_ ?_ ?_ ?_ ?_ ?_; rotate_left 2; (· (first | (with_reducible assumption) | (simp (disch := (first | omega | (simp only [World.size_alloc, World.size_setCell, World.size_drew, size_setRow]; done) | (simp only [World.size_alloc, World.size_setCell, World.size_drew, size_setRow]; omega))) only [hq_at, hq_past, hq_drew, hq_drewN, hq_cell, hq_row, hq_same, rowOf_cells, Option.map_some, *]; rfl) | (simp (disch := (first | omega | (simp only [World.size_alloc, World.size_setCell, World.size_drew, size_setRow]; done) | (simp only [World.size_alloc, World.size_setCell, World.size_drew, size_setRow]; omega))) only [hq_at, hq_past, hq_drew, hq_drewN, hq_cell, hq_row, hq_same, rowOf_cells, Option.map_some, *]))); (· kernel_rfl); (· rfl); (· rfl); rotate_left 1; (· (first | (simp (disch := (first | omega | (simp only [World.size_alloc, World.size_setCell, World.size_drew, size_setRow]; done) | (simp only [World.size_alloc, World.size_setCell, World.size_drew, size_setRow]; omega))) only [setRow_at, setRow_past, setRow_drew]; rfl) | rfl))))
      obtain ⟨W9, hW9, hE9, hG9⟩ := put_blk (W := w) (HE1.out.trans HE7.out) (Nat.le_refl _) hg4 #[.int .i64 0, .int .i64 0, .int .i64 0, .bool false, .bool false]
      rw [hW9]
      exact FAIL.out _ _ rfl rfl rfl hE9 hG9
    have hne2 : (T.toList != S4.toList) = false := by rw [hTS]; simp
    by_cases hn1 : n < 1
    · skip
      have hg4 := HE7.out.blk HG1.out
      go_wp2_with (first | ((with_reducible refine wpl_guard (isStore 30) ?_ ?_); (· rfl); refine wpl_store (t := ?_) (old := ?_) (w' := ?_) rfl 30 _ _ rfl rfl rfl ?_ ?_ ?_ ?_ ?_ ?_; rotate_left 2; (· (first | (with_reducible assumption) | (simp (disch := (first | omega | (simp only [World.size_alloc, World.size_setCell, World.size_drew, size_setRow]; done) | (simp only [World.size_alloc, World.size_setCell, World.size_drew, size_setRow]; omega))) only [hq_at, hq_past, hq_drew, hq_drewN, hq_cell, hq_row, hq_same, rowOf_cells, Option.map_some, *]; rfl) | (simp (disch := (first | omega | (simp only [World.size_alloc, World.size_setCell, World.size_drew, size_setRow]; done) | (simp only [World.size_alloc, World.size_setCell, World.size_drew, size_setRow]; omega))) only [hq_at, hq_past, hq_drew, hq_drewN, hq_cell, hq_row, hq_same, rowOf_cells, Option.map_some, *]))); (· kernel_rfl); (· rfl); (· rfl); rotate_left 1; (· (first | (simp (disch := (first | omega | (simp only [World.size_alloc, World.size_setCell, World.size_drew, size_setRow]; done) | (simp only [World.size_alloc, World.size_setCell, World.size_drew, size_setRow]; omega))) only [setRow_at, setRow_past, setRow_drew]; rfl) | rfl))))
      obtain ⟨W9, hW9, hE9, hG9⟩ := put_blk (W := w) (HE1.out.trans HE7.out) (Nat.le_refl _) hg4 #[.int .i64 0, .int .i64 0, .int .i64 0, .bool false, .bool false]
      rw [hW9]
      exact FAIL.out _ _ rfl rfl rfl hE9 hG9
    have hn1' : 1 ≤ n := by omega
    clear hn1
    by_cases hn2 : 99 < n
    · skip
      have hg4 := HE7.out.blk HG1.out
      go_wp2_with (first | ((with_reducible refine wpl_guard (isStore 30) ?_ ?_); (· rfl); refine wpl_store (t := ?_) (old := ?_) (w' := ?_) rfl 30 _ _ rfl rfl rfl ?_ ?_ ?_ ?_ ?_ ?_; rotate_left 2; (· (first | (with_reducible assumption) | (simp (disch := (first | omega | (simp only [World.size_alloc, World.size_setCell, World.size_drew, size_setRow]; done) | (simp only [World.size_alloc, World.size_setCell, World.size_drew, size_setRow]; omega))) only [hq_at, hq_past, hq_drew, hq_drewN, hq_cell, hq_row, hq_same, rowOf_cells, Option.map_some, *]; rfl) | (simp (disch := (first | omega | (simp only [World.size_alloc, World.size_setCell, World.size_drew, size_setRow]; done) | (simp only [World.size_alloc, World.size_setCell, World.size_drew, size_setRow]; omega))) only [hq_at, hq_past, hq_drew, hq_drewN, hq_cell, hq_row, hq_same, rowOf_cells, Option.map_some, *]))); (· kernel_rfl); (· rfl); (· rfl); rotate_left 1; (· (first | (simp (disch := (first | omega | (simp only [World.size_alloc, World.size_setCell, World.size_drew, size_setRow]; done) | (simp only [World.size_alloc, World.size_setCell, World.size_drew, size_setRow]; omega))) only [setRow_at, setRow_past, setRow_drew]; rfl) | rfl))))
      obtain ⟨W9, hW9, hE9, hG9⟩ := put_blk (W := w) (HE1.out.trans HE7.out) (Nat.le_refl _) hg4 #[.int .i64 0, .int .i64 0, .int .i64 0, .bool false, .bool false]
      rw [hW9]
      exact FAIL.out _ _ rfl rfl rfl hE9 hG9
    have hn2' : n ≤ 99 := by omega
    clear hn2
    have hc0 := cell_of_row w7 _ 0 _ _ _ HR7.out
    have hc1 := cell_of_row w7 _ 1 _ _ _ HR7.out
    have hc2 := cell_of_row w7 _ 2 _ _ _ HR7.out
    simp only [List.getElem?_toArray, List.getElem?_cons_zero, List.getElem?_cons_succ] at hc0 hc1 hc2
    go_wp2_with fail
    refine (aright_any (t) (c : Int) 0 _).mono ?_
    rintro e w8 ⟨rfl, hE8⟩
    obtain ⟨bi, hbi⟩ : ∃ bi, insV (t) (c : Int) 0 = bi := ⟨_, rfl⟩
    rw [hbi]
    have HR8 := Lib.hid (hE8.blk HR7.out)
    have HE8 := Lib.hid (HE7.out.trans hE8)
    clear hE8 hc0 hc1 hc2
    cases bi
    · skip
      have hg4 := HE8.out.blk HG1.out
      go_wp2_with (first | ((with_reducible refine wpl_guard (isStore 30) ?_ ?_); (· rfl); refine wpl_store (t := ?_) (old := ?_) (w' := ?_) rfl 30 _ _ rfl rfl rfl ?_ ?_ ?_ ?_ ?_ ?_; rotate_left 2; (· (first | (with_reducible assumption) | (simp (disch := (first | omega | (simp only [World.size_alloc, World.size_setCell, World.size_drew, size_setRow]; done) | (simp only [World.size_alloc, World.size_setCell, World.size_drew, size_setRow]; omega))) only [hq_at, hq_past, hq_drew, hq_drewN, hq_cell, hq_row, hq_same, rowOf_cells, Option.map_some, *]; rfl) | (simp (disch := (first | omega | (simp only [World.size_alloc, World.size_setCell, World.size_drew, size_setRow]; done) | (simp only [World.size_alloc, World.size_setCell, World.size_drew, size_setRow]; omega))) only [hq_at, hq_past, hq_drew, hq_drewN, hq_cell, hq_row, hq_same, rowOf_cells, Option.map_some, *]))); (· kernel_rfl); (· rfl); (· rfl); rotate_left 1; (· (first | (simp (disch := (first | omega | (simp only [World.size_alloc, World.size_setCell, World.size_drew, size_setRow]; done) | (simp only [World.size_alloc, World.size_setCell, World.size_drew, size_setRow]; omega))) only [setRow_at, setRow_past, setRow_drew]; rfl) | rfl))))
      obtain ⟨W9, hW9, hE9, hG9⟩ := put_blk (W := w) (HE1.out.trans HE8.out) (Nat.le_refl _) hg4 #[.int .i64 0, .int .i64 0, .int .i64 0, .bool false, .bool false]
      rw [hW9]
      exact FAIL.out _ _ rfl rfl rfl hE9 hG9
    obtain ⟨⟨p1, p2⟩, -, -⟩ := ins_bd hbi
    obtain ⟨s, hs⟩ : ∃ s : Nat, t = (s : Int) := ⟨(t).toNat, by omega⟩
    obtain ⟨r, hr⟩ : ∃ r : Nat, n = ((r + 1 : Nat) : Int) := ⟨n.toNat - 1, by omega⟩
    have hr9 : r < 99 := by omega
    have hs3 : s < 3 := by omega
    have hrw : IntKind.i64.wrap (n - 1) = (r : Int) := by rw [IntWalk.i64_in _ ⟨by omega, by omega⟩]; omega
    have hri3 : n - 1 = (r : Int) := by omega
    clear p1 p2 hbi hn1' hn2'
    subst hs
    have hc2 := cell_of_row w8 _ 2 _ _ _ HR8.out
    have hf2 := frozen_of_row w8 _ 2 _ _ HR8.out
    simp only [List.getElem?_toArray, List.getElem?_cons_zero, List.getElem?_cons_succ] at hc2
    go_upto_region 17 with (fail)
    obtain ⟨W9, hW9⟩ : ∃ W9, w8.setCell ⟨w.heap.size + 1, 2, none⟩ (.int .i64 (r : Int)) = W9 := ⟨_, rfl⟩
    have hg5 : W9.heap[w.heap.size + 1]? = some (.cells #[.int .i64 (s : Int), .int .i64 (c : Int), .int .i64 (r : Int), .bool x, .bool y] 30 (0, 0)) := by
      rw [← hW9]
      simp (disch := omega) only [hq_put, HR8.out, Option.map_some, setIn_cells]
      rfl
    have hE9' : Ext W1 W9 := by
      rw [← hW9]
      exact ext_set HE8.out (by show W1.heap.size ≤ w.heap.size + 1; rw [HS1.out]; exact Nat.le_refl _)
    rw [hW9]
    have hg4 := hE9'.blk HG1.out
    have HE9 := Lib.hid hE9'
    clear hW9 hc2 hf2 hE9'
    go_wp2_with (first | ((with_reducible refine wpl_guard (isLoad 30) ?_ ?_); (· rfl); refine wpl_load (t := ?_) (cs := ?_) (fr := ?_) rfl 30 _ rfl rfl ?_ Tryd.underlying30 rfl ?_ ?_; rotate_left 3; (· (first | (with_reducible assumption) | (simp (disch := (first | omega | (simp only [World.size_alloc, World.size_setCell, World.size_drew, size_setRow]; done) | (simp only [World.size_alloc, World.size_setCell, World.size_drew, size_setRow]; omega))) only [hq_at, hq_past, hq_drew, hq_drewN, hq_cell, hq_row, hq_same, rowOf_cells, Option.map_some, *]; rfl) | (simp (disch := (first | omega | (simp only [World.size_alloc, World.size_setCell, World.size_drew, size_setRow]; done) | (simp only [World.size_alloc, World.size_setCell, World.size_drew, size_setRow]; omega))) only [hq_at, hq_past, hq_drew, hq_drewN, hq_cell, hq_row, hq_same, rowOf_cells, Option.map_some, *]))); (· kernel_rfl); (try dsimp only [Act.put, List.setIfInBounds_toArray, List.set_cons_zero, List.set_cons_succ])) | ((with_reducible refine wpl_guard (isStore 30) ?_ ?_); (· rfl); refine wpl_store (t := ?_) (old := ?_) (w' := ?_) rfl 30 _ _ rfl rfl rfl ?_ ?_ ?_ ?_ ?_ ?_; rotate_left 2; (· (first | (with_reducible assumption) | (simp (disch := (first | omega | (simp only [World.size_alloc, World.size_setCell, World.size_drew, size_setRow]; done) | (simp only [World.size_alloc, World.size_setCell, World.size_drew, size_setRow]; omega))) only [hq_at, hq_past, hq_drew, hq_drewN, hq_cell, hq_row, hq_same, rowOf_cells, Option.map_some, *]; rfl) | (simp (disch := (first | omega | (simp only [World.size_alloc, World.size_setCell, World.size_drew, size_setRow]; done) | (simp only [World.size_alloc, World.size_setCell, World.size_drew, size_setRow]; omega))) only [hq_at, hq_past, hq_drew, hq_drewN, hq_cell, hq_row, hq_same, rowOf_cells, Option.map_some, *]))); (· kernel_rfl); (· rfl); (· rfl); rotate_left 1; (· (first | (simp (disch := (first | omega | (simp only [World.size_alloc, World.size_setCell, World.size_drew, size_setRow]; done) | (simp only [World.size_alloc, World.size_setCell, World.size_drew, size_setRow]; omega))) only [setRow_at, setRow_past, setRow_drew]; rfl) | rfl))))
    obtain ⟨WA, hWA, hEA, hGA⟩ := put_blk (W := w) (HE1.out.trans HE9.out) (Nat.le_refl _) hg4 #[.int .i64 (s : Int), .int .i64 (c : Int), .int .i64 (r : Int), .bool x, .bool y]
    rw [hWA]
    have bA := ext_blk hGA WA (Ext.refl _)
    refine bodyPost_ret (v := .tuple #[refV ((s : Int)) c r x y, .bool true]) ?_ rfl ⟨⟨_, _, rfl, ?_⟩, hEA⟩
    · simp [results, Tryd.results58, go_sem, bA]
    · exact HT.out s c r hs3 hc26 hr9 (by rw [← h23]; exact head_tail h2' (hb0.trans HC.out)) hTS hr (fun h => by cases h) (fun _ => rfl)
  · go_enter Tryd.func58, Tryd.ntmps58
    go_wp2_with fail
    rw [HW1.out, HW2.out]
    refine (HCUT.out _ (HENV.out.max.ext (HE1.out.trans HE2.out))).mono ?_
    rintro e w3 ⟨rfl, hE3⟩
    have HR3 := Lib.hid (hE3.blk HG2.out)
    have HE3 := Lib.hid (HE2.out.trans hE3)
    clear hE3 HW1 HW2
    by_cases hhs : head.size = 2
    rotate_left 1
    · have qs : ((head.size : Int) != 2) = true := by rw [bne_iff_ne]; omega
      have hg4 := HE3.out.blk HG1.out
      go_wp2_with (first | ((with_reducible refine wpl_guard (isStore 30) ?_ ?_); (· rfl); refine wpl_store (t := ?_) (old := ?_) (w' := ?_) rfl 30 _ _ rfl rfl rfl ?_ ?_ ?_ ?_ ?_ ?_; rotate_left 2; (· (first | (with_reducible assumption) | (simp (disch := (first | omega | (simp only [World.size_alloc, World.size_setCell, World.size_drew, size_setRow]; done) | (simp only [World.size_alloc, World.size_setCell, World.size_drew, size_setRow]; omega))) only [hq_at, hq_past, hq_drew, hq_drewN, hq_cell, hq_row, hq_same, rowOf_cells, Option.map_some, *]; rfl) | (simp (disch := (first | omega | (simp only [World.size_alloc, World.size_setCell, World.size_drew, size_setRow]; done) | (simp only [World.size_alloc, World.size_setCell, World.size_drew, size_setRow]; omega))) only [hq_at, hq_past, hq_drew, hq_drewN, hq_cell, hq_row, hq_same, rowOf_cells, Option.map_some, *]))); (· kernel_rfl); (· rfl); (· rfl); rotate_left 1; (· (first | (simp (disch := (first | omega | (simp only [World.size_alloc, World.size_setCell, World.size_drew, size_setRow]; done) | (simp only [World.size_alloc, World.size_setCell, World.size_drew, size_setRow]; omega))) only [setRow_at, setRow_past, setRow_drew]; rfl) | rfl))))
      obtain ⟨W9, hW9, hE9, hG9⟩ := put_blk (W := w) (HE1.out.trans HE3.out) (Nat.le_refl _) hg4 #[.int .i64 0, .int .i64 0, .int .i64 0, .bool false, .bool false]
      rw [hW9]
      exact FAIL.out _ _ rfl rfl rfl hE9 hG9
    have qs : (head.size : Int) = 2 := by omega
    obtain ⟨h0, hh0e⟩ : ∃ h0, head[0]'(by omega) = h0 := ⟨_, rfl⟩
    obtain ⟨h1, hh1e⟩ : ∃ h1, head[1]'(by omega) = h1 := ⟨_, rfl⟩
    have h0255 : h0.toNat < 256 := h0.toNat_lt
    have h1255 : h1.toNat < 256 := h1.toNat_lt
    by_cases hq0 : h0.toNat = 83
    rotate_left 1
    · have q0 : ((h0.toNat : Int) != 83) = true := by rw [bne_iff_ne]; omega
      have hg4 := HE3.out.blk HG1.out
      go_wp2_with (first | ((with_reducible refine wpl_guard (isStore 30) ?_ ?_); (· rfl); refine wpl_store (t := ?_) (old := ?_) (w' := ?_) rfl 30 _ _ rfl rfl rfl ?_ ?_ ?_ ?_ ?_ ?_; rotate_left 2; (· (first | (with_reducible assumption) | (simp (disch := (first | omega | (simp only [World.size_alloc, World.size_setCell, World.size_drew, size_setRow]; done) | (simp only [World.size_alloc, World.size_setCell, World.size_drew, size_setRow]; omega))) only [hq_at, hq_past, hq_drew, hq_drewN, hq_cell, hq_row, hq_same, rowOf_cells, Option.map_some, *]; rfl) | (simp (disch := (first | omega | (simp only [World.size_alloc, World.size_setCell, World.size_drew, size_setRow]; done) | (simp only [World.size_alloc, World.size_setCell, World.size_drew, size_setRow]; omega))) only [hq_at, hq_past, hq_drew, hq_drewN, hq_cell, hq_row, hq_same, rowOf_cells, Option.map_some, *]))); (· kernel_rfl); (· rfl); (· rfl); rotate_left 1; (· (first | (simp (disch := (first | omega | (simp only [World.size_alloc, World.size_setCell, World.size_drew, size_setRow]; done) | (simp only [World.size_alloc, World.size_setCell, World.size_drew, size_setRow]; omega))) only [setRow_at, setRow_past, setRow_drew]; rfl) | rfl))))
      obtain ⟨W9, hW9, hE9, hG9⟩ := put_blk (W := w) (HE1.out.trans HE3.out) (Nat.le_refl _) hg4 #[.int .i64 0, .int .i64 0, .int .i64 0, .bool false, .bool false]
      rw [hW9]
      exact FAIL.out _ _ rfl rfl rfl hE9 hG9
    have q0 : (h0.toNat : Int) = 83 := by omega
    by_cases hq1 : h1.toNat < 49
    · have q1 : (h1.toNat : Int) < 49 := by omega
      have hg4 := HE3.out.blk HG1.out
      go_wp2_with (first | ((with_reducible refine wpl_guard (isStore 30) ?_ ?_); (· rfl); refine wpl_store (t := ?_) (old := ?_) (w' := ?_) rfl 30 _ _ rfl rfl rfl ?_ ?_ ?_ ?_ ?_ ?_; rotate_left 2; (· (first | (with_reducible assumption) | (simp (disch := (first | omega | (simp only [World.size_alloc, World.size_setCell, World.size_drew, size_setRow]; done) | (simp only [World.size_alloc, World.size_setCell, World.size_drew, size_setRow]; omega))) only [hq_at, hq_past, hq_drew, hq_drewN, hq_cell, hq_row, hq_same, rowOf_cells, Option.map_some, *]; rfl) | (simp (disch := (first | omega | (simp only [World.size_alloc, World.size_setCell, World.size_drew, size_setRow]; done) | (simp only [World.size_alloc, World.size_setCell, World.size_drew, size_setRow]; omega))) only [hq_at, hq_past, hq_drew, hq_drewN, hq_cell, hq_row, hq_same, rowOf_cells, Option.map_some, *]))); (· kernel_rfl); (· rfl); (· rfl); rotate_left 1; (· (first | (simp (disch := (first | omega | (simp only [World.size_alloc, World.size_setCell, World.size_drew, size_setRow]; done) | (simp only [World.size_alloc, World.size_setCell, World.size_drew, size_setRow]; omega))) only [setRow_at, setRow_past, setRow_drew]; rfl) | rfl))))
      obtain ⟨W9, hW9, hE9, hG9⟩ := put_blk (W := w) (HE1.out.trans HE3.out) (Nat.le_refl _) hg4 #[.int .i64 0, .int .i64 0, .int .i64 0, .bool false, .bool false]
      rw [hW9]
      exact FAIL.out _ _ rfl rfl rfl hE9 hG9
    have q1 : (49 : Int) ≤ (h1.toNat : Int) := by omega
    by_cases hq2 : 52 ≤ h1.toNat
    · have q2 : (52 : Int) ≤ (h1.toNat : Int) := by omega
      have hg4 := HE3.out.blk HG1.out
      go_wp2_with (first | ((with_reducible refine wpl_guard (isStore 30) ?_ ?_); (· rfl); refine wpl_store (t := ?_) (old := ?_) (w' := ?_) rfl 30 _ _ rfl rfl rfl ?_ ?_ ?_ ?_ ?_ ?_; rotate_left 2; (· (first | (with_reducible assumption) | (simp (disch := (first | omega | (simp only [World.size_alloc, World.size_setCell, World.size_drew, size_setRow]; done) | (simp only [World.size_alloc, World.size_setCell, World.size_drew, size_setRow]; omega))) only [hq_at, hq_past, hq_drew, hq_drewN, hq_cell, hq_row, hq_same, rowOf_cells, Option.map_some, *]; rfl) | (simp (disch := (first | omega | (simp only [World.size_alloc, World.size_setCell, World.size_drew, size_setRow]; done) | (simp only [World.size_alloc, World.size_setCell, World.size_drew, size_setRow]; omega))) only [hq_at, hq_past, hq_drew, hq_drewN, hq_cell, hq_row, hq_same, rowOf_cells, Option.map_some, *]))); (· kernel_rfl); (· rfl); (· rfl); rotate_left 1; (· (first | (simp (disch := (first | omega | (simp only [World.size_alloc, World.size_setCell, World.size_drew, size_setRow]; done) | (simp only [World.size_alloc, World.size_setCell, World.size_drew, size_setRow]; omega))) only [setRow_at, setRow_past, setRow_drew]; rfl) | rfl))))
      obtain ⟨W9, hW9, hE9, hG9⟩ := put_blk (W := w) (HE1.out.trans HE3.out) (Nat.le_refl _) hg4 #[.int .i64 0, .int .i64 0, .int .i64 0, .bool false, .bool false]
      rw [hW9]
      exact FAIL.out _ _ rfl rfl rfl hE9 hG9
    have q2 : (h1.toNat : Int) < 52 := by omega
    obtain ⟨sv, hsv⟩ : ∃ sv, h1.toNat - 49 = sv := ⟨_, rfl⟩
    have q3 : (h1.toNat : Int) - 49 = (sv : Int) := by omega
    have HHD : Hid (head.data.toList = [83, UInt8.ofNat (49 + sv)]) := Lib.hid (two_bytes hhs (hh0e.trans (UInt8.toNat.inj hq0)) (hh1e.trans (UInt8.toNat.inj (by simp [UInt8.toNat_ofNat']; omega))))
    clear hq1 hq2 hq0 h0255 hsv
    have hc0 := cell_of_row w3 _ 0 _ _ _ HR3.out
    have hf0 := frozen_of_row w3 _ 0 _ _ HR3.out
    simp only [List.getElem?_toArray, List.getElem?_cons_zero, List.getElem?_cons_succ] at hc0
    go_wp2_with fail
    obtain ⟨W3, hW3⟩ : ∃ W3, w3.setCell ⟨w.heap.size + 1, 0, none⟩ (.int .i64 (sv : Int)) = W3 := ⟨_, rfl⟩
    have hg5 : W3.heap[w.heap.size + 1]? = some (.cells #[.int .i64 (sv : Int), .int .i64 0, .int .i64 0, .bool false, .bool false] 30 (0, 0)) := by
      rw [← hW3]
      simp (disch := omega) only [hq_put, HR3.out, Option.map_some, setIn_cells]
      rfl
    have hE3 : Ext W1 W3 := by
      rw [← hW3]
      exact ext_set HE3.out (by show W1.heap.size ≤ w.heap.size + 1; rw [HS1.out]; exact Nat.le_refl _)
    rw [hW3]
    have HR3' := Lib.hid hg5
    have HE3' := Lib.hid hE3
    clear hW3 hg5 hE3 hc0 hf0 h1255 q0 q1 q2 q3 qs hh0e hh1e
    refine (HP1.out _).mono ?_
    rintro e w' ⟨rfl, hw'⟩
    rw [hw']
    clear hw' w'
    have hc3 := cell_of_row W3 _ 3 _ _ _ HR3'.out
    have hf3 := frozen_of_row W3 _ 3 _ _ HR3'.out
    simp only [List.getElem?_toArray, List.getElem?_cons_zero, List.getElem?_cons_succ] at hc3
    go_upto_region 9 with (fail)
    obtain ⟨W4, hW4⟩ : ∃ W4, W3.setCell ⟨w.heap.size + 1, 3, none⟩ (.bool x) = W4 := ⟨_, rfl⟩
    have hg5 : W4.heap[w.heap.size + 1]? = some (.cells #[.int .i64 (sv : Int), .int .i64 0, .int .i64 0, .bool x, .bool false] 30 (0, 0)) := by
      rw [← hW4]
      simp (disch := omega) only [hq_put, HR3'.out, Option.map_some, setIn_cells]
      rfl
    have hE4 : Ext W1 W4 := by
      rw [← hW4]
      exact ext_set HE3'.out (by show W1.heap.size ≤ w.heap.size + 1; rw [HS1.out]; exact Nat.le_refl _)
    rw [hW4]
    have HR4 := Lib.hid hg5
    have HE4 := Lib.hid hE4
    clear hW4 hc3 hf3 hg5 hE4
    by_cases h2 : S2.size = 0
    · have hne : S2.toList.isEmpty = true := by
        rw [Lib.toList_data]
        cases hl : S2.data.toList with
        | nil => rfl
        | cons a b => exfalso; have : S2.size = S2.data.toList.length := by simp
                      rw [hl] at this; simp at this; omega
      have hg4 := HE4.out.blk HG1.out
      go_wp2_with (first | ((with_reducible refine wpl_guard (isStore 30) ?_ ?_); (· rfl); refine wpl_store (t := ?_) (old := ?_) (w' := ?_) rfl 30 _ _ rfl rfl rfl ?_ ?_ ?_ ?_ ?_ ?_; rotate_left 2; (· (first | (with_reducible assumption) | (simp (disch := (first | omega | (simp only [World.size_alloc, World.size_setCell, World.size_drew, size_setRow]; done) | (simp only [World.size_alloc, World.size_setCell, World.size_drew, size_setRow]; omega))) only [hq_at, hq_past, hq_drew, hq_drewN, hq_cell, hq_row, hq_same, rowOf_cells, Option.map_some, *]; rfl) | (simp (disch := (first | omega | (simp only [World.size_alloc, World.size_setCell, World.size_drew, size_setRow]; done) | (simp only [World.size_alloc, World.size_setCell, World.size_drew, size_setRow]; omega))) only [hq_at, hq_past, hq_drew, hq_drewN, hq_cell, hq_row, hq_same, rowOf_cells, Option.map_some, *]))); (· kernel_rfl); (· rfl); (· rfl); rotate_left 1; (· (first | (simp (disch := (first | omega | (simp only [World.size_alloc, World.size_setCell, World.size_drew, size_setRow]; done) | (simp only [World.size_alloc, World.size_setCell, World.size_drew, size_setRow]; omega))) only [setRow_at, setRow_past, setRow_drew]; rfl) | rfl))))
      obtain ⟨W9, hW9, hE9, hG9⟩ := put_blk (W := w) (HE1.out.trans HE4.out) (Nat.le_refl _) hg4 #[.int .i64 0, .int .i64 0, .int .i64 0, .bool false, .bool false]
      rw [hW9]
      exact FAIL.out _ _ rfl rfl rfl hE9 hG9
    have h2' : 0 < S2.size := by omega
    have hne : S2.toList.isEmpty = false := by
      rw [Lib.toList_data]
      cases hl : S2.data.toList with
      | nil => exact absurd h2' (by rw [show S2.size = S2.data.toList.length by simp, hl]; simp)
      | cons => rfl
    obtain ⟨b0, hb0⟩ : ∃ b0, S2[0]'h2' = b0 := ⟨_, rfl⟩
    have hb255 : b0.toNat < 256 := b0.toNat_lt
    clear h2
    by_cases hlo : b0.toNat < 65
    · have q1 : (b0.toNat : Int) < 65 := by omega
      have hg4 := HE4.out.blk HG1.out
      go_wp2_with (first | ((with_reducible refine wpl_guard (isStore 30) ?_ ?_); (· rfl); refine wpl_store (t := ?_) (old := ?_) (w' := ?_) rfl 30 _ _ rfl rfl rfl ?_ ?_ ?_ ?_ ?_ ?_; rotate_left 2; (· (first | (with_reducible assumption) | (simp (disch := (first | omega | (simp only [World.size_alloc, World.size_setCell, World.size_drew, size_setRow]; done) | (simp only [World.size_alloc, World.size_setCell, World.size_drew, size_setRow]; omega))) only [hq_at, hq_past, hq_drew, hq_drewN, hq_cell, hq_row, hq_same, rowOf_cells, Option.map_some, *]; rfl) | (simp (disch := (first | omega | (simp only [World.size_alloc, World.size_setCell, World.size_drew, size_setRow]; done) | (simp only [World.size_alloc, World.size_setCell, World.size_drew, size_setRow]; omega))) only [hq_at, hq_past, hq_drew, hq_drewN, hq_cell, hq_row, hq_same, rowOf_cells, Option.map_some, *]))); (· kernel_rfl); (· rfl); (· rfl); rotate_left 1; (· (first | (simp (disch := (first | omega | (simp only [World.size_alloc, World.size_setCell, World.size_drew, size_setRow]; done) | (simp only [World.size_alloc, World.size_setCell, World.size_drew, size_setRow]; omega))) only [setRow_at, setRow_past, setRow_drew]; rfl) | rfl))))
      obtain ⟨W9, hW9, hE9, hG9⟩ := put_blk (W := w) (HE1.out.trans HE4.out) (Nat.le_refl _) hg4 #[.int .i64 0, .int .i64 0, .int .i64 0, .bool false, .bool false]
      rw [hW9]
      exact FAIL.out _ _ rfl rfl rfl hE9 hG9
    by_cases hhi : 90 < b0.toNat
    · have q1 : (65 : Int) ≤ (b0.toNat : Int) := by omega
      have q2 : (90 : Int) < (b0.toNat : Int) := by omega
      have hg4 := HE4.out.blk HG1.out
      go_wp2_with (first | ((with_reducible refine wpl_guard (isStore 30) ?_ ?_); (· rfl); refine wpl_store (t := ?_) (old := ?_) (w' := ?_) rfl 30 _ _ rfl rfl rfl ?_ ?_ ?_ ?_ ?_ ?_; rotate_left 2; (· (first | (with_reducible assumption) | (simp (disch := (first | omega | (simp only [World.size_alloc, World.size_setCell, World.size_drew, size_setRow]; done) | (simp only [World.size_alloc, World.size_setCell, World.size_drew, size_setRow]; omega))) only [hq_at, hq_past, hq_drew, hq_drewN, hq_cell, hq_row, hq_same, rowOf_cells, Option.map_some, *]; rfl) | (simp (disch := (first | omega | (simp only [World.size_alloc, World.size_setCell, World.size_drew, size_setRow]; done) | (simp only [World.size_alloc, World.size_setCell, World.size_drew, size_setRow]; omega))) only [hq_at, hq_past, hq_drew, hq_drewN, hq_cell, hq_row, hq_same, rowOf_cells, Option.map_some, *]))); (· kernel_rfl); (· rfl); (· rfl); rotate_left 1; (· (first | (simp (disch := (first | omega | (simp only [World.size_alloc, World.size_setCell, World.size_drew, size_setRow]; done) | (simp only [World.size_alloc, World.size_setCell, World.size_drew, size_setRow]; omega))) only [setRow_at, setRow_past, setRow_drew]; rfl) | rfl))))
      obtain ⟨W9, hW9, hE9, hG9⟩ := put_blk (W := w) (HE1.out.trans HE4.out) (Nat.le_refl _) hg4 #[.int .i64 0, .int .i64 0, .int .i64 0, .bool false, .bool false]
      rw [hW9]
      exact FAIL.out _ _ rfl rfl rfl hE9 hG9
    obtain ⟨c, hc⟩ : ∃ c, b0.toNat - 65 = c := ⟨_, rfl⟩
    have hc26 : c < 26 := by omega
    have hb1 : (b0.toNat : Int) - 65 = (c : Int) := by omega
    have hb2 : (65 : Int) ≤ (b0.toNat : Int) := by omega
    have hb3 : (b0.toNat : Int) ≤ 90 := by omega
    have HC : Hid (b0 = colB c) := Lib.hid (UInt8.toNat.inj (by rw [colB_nat hc26]; omega))
    clear hlo hhi hc hb255
    have hc1 := cell_of_row W4 _ 1 _ _ _ HR4.out
    have hc4 := cell_of_row W4 _ 4 _ _ _ HR4.out
    have hf1 := frozen_of_row W4 _ 1 _ _ HR4.out
    have hf4 := frozen_of_row W4 _ 4 _ _ HR4.out
    simp only [List.getElem?_toArray, List.getElem?_cons_zero, List.getElem?_cons_succ] at hc1 hc4
    go_wp2_with fail
    refine (HP2.out _).mono ?_
    rintro e w' ⟨rfl, hw'⟩
    rw [hw']
    clear hw' w'
    go_upto_region 13 with (fail)
    obtain ⟨W5, hW5⟩ : ∃ W5, (W4.setCell ⟨w.heap.size + 1, 1, none⟩ (.int .i64 (c : Int))).setCell ⟨w.heap.size + 1, 4, none⟩ (.bool y) = W5 := ⟨_, rfl⟩
    have hg5 : W5.heap[w.heap.size + 1]? = some (.cells #[.int .i64 (sv : Int), .int .i64 (c : Int), .int .i64 0, .bool x, .bool y] 30 (0, 0)) := by
      rw [← hW5]
      simp (disch := omega) only [hq_put, HR4.out, Option.map_some, setIn_cells]
      rfl
    have hE5 : Ext W1 W5 := by
      rw [← hW5]
      have h1 : W1.heap.size ≤ w.heap.size + 1 := by rw [HS1.out]; exact Nat.le_refl _
      exact ext_set (ext_set HE4.out h1) h1
    rw [hW5]
    have HR5 := Lib.hid hg5
    have HE5 := Lib.hid hE5
    have HENV5 := Lib.hid (HENV.out.ext (HE1.out.trans hE5))
    clear hW5 hc1 hf1 hc4 hf4 hg5 hE5 hne hb1 hb2 hb3
    go_wp2_with fail
    refine (HAT.out _ HENV5.out).mono ?_
    rintro e w6 ⟨⟨er, rfl, her⟩, hE6⟩
    cases ok
    · obtain ⟨te, pe, rfl⟩ := her
      have HE6 := Lib.hid (HE5.out.trans hE6)
      clear hE6
      have hg4 := HE6.out.blk HG1.out
      go_wp2_with (first | ((with_reducible refine wpl_guard (isStore 30) ?_ ?_); (· rfl); refine wpl_store (t := ?_) (old := ?_) (w' := ?_) rfl 30 _ _ rfl rfl rfl ?_ ?_ ?_ ?_ ?_ ?_; rotate_left 2; (· (first | (with_reducible assumption) | (simp (disch := (first | omega | (simp only [World.size_alloc, World.size_setCell, World.size_drew, size_setRow]; done) | (simp only [World.size_alloc, World.size_setCell, World.size_drew, size_setRow]; omega))) only [hq_at, hq_past, hq_drew, hq_drewN, hq_cell, hq_row, hq_same, rowOf_cells, Option.map_some, *]; rfl) | (simp (disch := (first | omega | (simp only [World.size_alloc, World.size_setCell, World.size_drew, size_setRow]; done) | (simp only [World.size_alloc, World.size_setCell, World.size_drew, size_setRow]; omega))) only [hq_at, hq_past, hq_drew, hq_drewN, hq_cell, hq_row, hq_same, rowOf_cells, Option.map_some, *]))); (· kernel_rfl); (· rfl); (· rfl); rotate_left 1; (· (first | (simp (disch := (first | omega | (simp only [World.size_alloc, World.size_setCell, World.size_drew, size_setRow]; done) | (simp only [World.size_alloc, World.size_setCell, World.size_drew, size_setRow]; omega))) only [setRow_at, setRow_past, setRow_drew]; rfl) | rfl))))
      obtain ⟨W9, hW9, hE9, hG9⟩ := put_blk (W := w) (HE1.out.trans HE6.out) (Nat.le_refl _) hg4 #[.int .i64 0, .int .i64 0, .int .i64 0, .bool false, .bool false]
      rw [hW9]
      exact FAIL.out _ _ rfl rfl rfl hE9 hG9
    obtain rfl : er = .nilIface := her
    have HENV6 := Lib.hid (HENV5.out.ext hE6)
    have HR6 := Lib.hid (hE6.blk HR5.out)
    have HE6 := Lib.hid (HE5.out.trans hE6)
    clear hE6
    go_wp2_with fail
    refine (HIT.out trivial _ HENV6.out).mono ?_
    rintro e w7 ⟨rfl, hE7⟩
    have HR7 := Lib.hid (hE7.blk HR6.out)
    have HE7 := Lib.hid (HE6.out.trans hE7)
    clear hE7
    by_cases hTS : T = S4
    rotate_left 1
    · have hne2 : (T.toList != S4.toList) = true := by
        rw [bne_iff_ne]
        intro e
        refine hTS ?_
        rw [Lib.toList_data, Lib.toList_data] at e
        exact ByteArray.ext (Array.ext' e)
      have hne3 : ¬ (T.toList = S4.toList) := by rwa [bne_iff_ne] at hne2
      have hne4 : (T.toList == S4.toList) = false := by rw [beq_eq_false_iff_ne]; exact hne3
      have hg4 := HE7.out.blk HG1.out
      go_wp2_with (first | ((with_reducible refine wpl_guard (isStore 30) ?_ ?_); (· rfl); refine wpl_store (t := ?_) (old := ?_) (w' := ?_) rfl 30 _ _ rfl rfl rfl ?_ ?_ ?_ ?_ ?_ ?_; rotate_left 2; (· (first | (with_reducible assumption) | (simp (disch := (first | omega | (simp only [World.size_alloc, World.size_setCell, World.size_drew, size_setRow]; done) | (simp only [World.size_alloc, World.size_setCell, World.size_drew, size_setRow]; omega))) only [hq_at, hq_past, hq_drew, hq_drewN, hq_cell, hq_row, hq_same, rowOf_cells, Option.map_some, *]; rfl) | (simp (disch := (first | omega | (simp only [World.size_alloc, World.size_setCell, World.size_drew, size_setRow]; done) | (simp only [World.size_alloc, World.size_setCell, World.size_drew, size_setRow]; omega))) only [hq_at, hq_past, hq_drew, hq_drewN, hq_cell, hq_row, hq_same, rowOf_cells, Option.map_some, *]))); (· kernel_rfl); (· rfl); (· rfl); rotate_left 1; (· (first | (simp (disch := (first | omega | (simp only [World.size_alloc, World.size_setCell, World.size_drew, size_setRow]; done) | (simp only [World.size_alloc, World.size_setCell, World.size_drew, size_setRow]; omega))) only [setRow_at, setRow_past, setRow_drew]; rfl) | rfl))))
      obtain ⟨W9, hW9, hE9, hG9⟩ := put_blk (W := w) (HE1.out.trans HE7.out) (Nat.le_refl _) hg4 #[.int .i64 0, .int .i64 0, .int .i64 0, .bool false, .bool false]
      rw [hW9]
      exact FAIL.out _ _ rfl rfl rfl hE9 hG9
    have hne2 : (T.toList != S4.toList) = false := by rw [hTS]; simp
    by_cases hn1 : n < 1
    · skip
      have hg4 := HE7.out.blk HG1.out
      go_wp2_with (first | ((with_reducible refine wpl_guard (isStore 30) ?_ ?_); (· rfl); refine wpl_store (t := ?_) (old := ?_) (w' := ?_) rfl 30 _ _ rfl rfl rfl ?_ ?_ ?_ ?_ ?_ ?_; rotate_left 2; (· (first | (with_reducible assumption) | (simp (disch := (first | omega | (simp only [World.size_alloc, World.size_setCell, World.size_drew, size_setRow]; done) | (simp only [World.size_alloc, World.size_setCell, World.size_drew, size_setRow]; omega))) only [hq_at, hq_past, hq_drew, hq_drewN, hq_cell, hq_row, hq_same, rowOf_cells, Option.map_some, *]; rfl) | (simp (disch := (first | omega | (simp only [World.size_alloc, World.size_setCell, World.size_drew, size_setRow]; done) | (simp only [World.size_alloc, World.size_setCell, World.size_drew, size_setRow]; omega))) only [hq_at, hq_past, hq_drew, hq_drewN, hq_cell, hq_row, hq_same, rowOf_cells, Option.map_some, *]))); (· kernel_rfl); (· rfl); (· rfl); rotate_left 1; (· (first | (simp (disch := (first | omega | (simp only [World.size_alloc, World.size_setCell, World.size_drew, size_setRow]; done) | (simp only [World.size_alloc, World.size_setCell, World.size_drew, size_setRow]; omega))) only [setRow_at, setRow_past, setRow_drew]; rfl) | rfl))))
      obtain ⟨W9, hW9, hE9, hG9⟩ := put_blk (W := w) (HE1.out.trans HE7.out) (Nat.le_refl _) hg4 #[.int .i64 0, .int .i64 0, .int .i64 0, .bool false, .bool false]
      rw [hW9]
      exact FAIL.out _ _ rfl rfl rfl hE9 hG9
    have hn1' : 1 ≤ n := by omega
    clear hn1
    by_cases hn2 : 99 < n
    · skip
      have hg4 := HE7.out.blk HG1.out
      go_wp2_with (first | ((with_reducible refine wpl_guard (isStore 30) ?_ ?_); (· rfl); refine wpl_store (t := ?_) (old := ?_) (w' := ?_) rfl 30 _ _ rfl rfl rfl ?_ ?_ ?_ ?_ ?_ ?_; rotate_left 2; (· (first | (with_reducible assumption) | (simp (disch := (first | omega | (simp only [World.size_alloc, World.size_setCell, World.size_drew, size_setRow]; done) | (simp only [World.size_alloc, World.size_setCell, World.size_drew, size_setRow]; omega))) only [hq_at, hq_past, hq_drew, hq_drewN, hq_cell, hq_row, hq_same, rowOf_cells, Option.map_some, *]; rfl) | (simp (disch := (first | omega | (simp only [World.size_alloc, World.size_setCell, World.size_drew, size_setRow]; done) | (simp only [World.size_alloc, World.size_setCell, World.size_drew, size_setRow]; omega))) only [hq_at, hq_past, hq_drew, hq_drewN, hq_cell, hq_row, hq_same, rowOf_cells, Option.map_some, *]))); (· kernel_rfl); (· rfl); (· rfl); rotate_left 1; (· (first | (simp (disch := (first | omega | (simp only [World.size_alloc, World.size_setCell, World.size_drew, size_setRow]; done) | (simp only [World.size_alloc, World.size_setCell, World.size_drew, size_setRow]; omega))) only [setRow_at, setRow_past, setRow_drew]; rfl) | rfl))))
      obtain ⟨W9, hW9, hE9, hG9⟩ := put_blk (W := w) (HE1.out.trans HE7.out) (Nat.le_refl _) hg4 #[.int .i64 0, .int .i64 0, .int .i64 0, .bool false, .bool false]
      rw [hW9]
      exact FAIL.out _ _ rfl rfl rfl hE9 hG9
    have hn2' : n ≤ 99 := by omega
    clear hn2
    have hc0 := cell_of_row w7 _ 0 _ _ _ HR7.out
    have hc1 := cell_of_row w7 _ 1 _ _ _ HR7.out
    have hc2 := cell_of_row w7 _ 2 _ _ _ HR7.out
    simp only [List.getElem?_toArray, List.getElem?_cons_zero, List.getElem?_cons_succ] at hc0 hc1 hc2
    go_wp2_with fail
    refine (aright_any ((sv : Int)) (c : Int) 0 _).mono ?_
    rintro e w8 ⟨rfl, hE8⟩
    obtain ⟨bi, hbi⟩ : ∃ bi, insV ((sv : Int)) (c : Int) 0 = bi := ⟨_, rfl⟩
    rw [hbi]
    have HR8 := Lib.hid (hE8.blk HR7.out)
    have HE8 := Lib.hid (HE7.out.trans hE8)
    clear hE8 hc0 hc1 hc2
    cases bi
    · skip
      have hg4 := HE8.out.blk HG1.out
      go_wp2_with (first | ((with_reducible refine wpl_guard (isStore 30) ?_ ?_); (· rfl); refine wpl_store (t := ?_) (old := ?_) (w' := ?_) rfl 30 _ _ rfl rfl rfl ?_ ?_ ?_ ?_ ?_ ?_; rotate_left 2; (· (first | (with_reducible assumption) | (simp (disch := (first | omega | (simp only [World.size_alloc, World.size_setCell, World.size_drew, size_setRow]; done) | (simp only [World.size_alloc, World.size_setCell, World.size_drew, size_setRow]; omega))) only [hq_at, hq_past, hq_drew, hq_drewN, hq_cell, hq_row, hq_same, rowOf_cells, Option.map_some, *]; rfl) | (simp (disch := (first | omega | (simp only [World.size_alloc, World.size_setCell, World.size_drew, size_setRow]; done) | (simp only [World.size_alloc, World.size_setCell, World.size_drew, size_setRow]; omega))) only [hq_at, hq_past, hq_drew, hq_drewN, hq_cell, hq_row, hq_same, rowOf_cells, Option.map_some, *]))); (· kernel_rfl); (· rfl); (· rfl); rotate_left 1; (· (first | (simp (disch := (first | omega | (simp only [World.size_alloc, World.size_setCell, World.size_drew, size_setRow]; done) | (simp only [World.size_alloc, World.size_setCell, World.size_drew, size_setRow]; omega))) only [setRow_at, setRow_past, setRow_drew]; rfl) | rfl))))
      obtain ⟨W9, hW9, hE9, hG9⟩ := put_blk (W := w) (HE1.out.trans HE8.out) (Nat.le_refl _) hg4 #[.int .i64 0, .int .i64 0, .int .i64 0, .bool false, .bool false]
      rw [hW9]
      exact FAIL.out _ _ rfl rfl rfl hE9 hG9
    obtain ⟨⟨p1, p2⟩, -, -⟩ := ins_bd hbi
    obtain ⟨s, hs⟩ : ∃ s : Nat, (sv : Int) = (s : Int) := ⟨((sv : Int)).toNat, by omega⟩
    obtain ⟨r, hr⟩ : ∃ r : Nat, n = ((r + 1 : Nat) : Int) := ⟨n.toNat - 1, by omega⟩
    have hr9 : r < 99 := by omega
    have hs3 : s < 3 := by omega
    have hrw : IntKind.i64.wrap (n - 1) = (r : Int) := by rw [IntWalk.i64_in _ ⟨by omega, by omega⟩]; omega
    have hri3 : n - 1 = (r : Int) := by omega
    clear p1 p2 hbi hn1' hn2'
    obtain rfl : s = sv := by omega
    clear hs
    have hc2 := cell_of_row w8 _ 2 _ _ _ HR8.out
    have hf2 := frozen_of_row w8 _ 2 _ _ HR8.out
    simp only [List.getElem?_toArray, List.getElem?_cons_zero, List.getElem?_cons_succ] at hc2
    go_upto_region 17 with (fail)
    obtain ⟨W9, hW9⟩ : ∃ W9, w8.setCell ⟨w.heap.size + 1, 2, none⟩ (.int .i64 (r : Int)) = W9 := ⟨_, rfl⟩
    have hg5 : W9.heap[w.heap.size + 1]? = some (.cells #[.int .i64 (s : Int), .int .i64 (c : Int), .int .i64 (r : Int), .bool x, .bool y] 30 (0, 0)) := by
      rw [← hW9]
      simp (disch := omega) only [hq_put, HR8.out, Option.map_some, setIn_cells]
      rfl
    have hE9' : Ext W1 W9 := by
      rw [← hW9]
      exact ext_set HE8.out (by show W1.heap.size ≤ w.heap.size + 1; rw [HS1.out]; exact Nat.le_refl _)
    rw [hW9]
    have hg4 := hE9'.blk HG1.out
    have HE9 := Lib.hid hE9'
    clear hW9 hc2 hf2 hE9'
    go_wp2_with (first | ((with_reducible refine wpl_guard (isLoad 30) ?_ ?_); (· rfl); refine wpl_load (t := ?_) (cs := ?_) (fr := ?_) rfl 30 _ rfl rfl ?_ Tryd.underlying30 rfl ?_ ?_; rotate_left 3; (· (first | (with_reducible assumption) | (simp (disch := (first | omega | (simp only [World.size_alloc, World.size_setCell, World.size_drew, size_setRow]; done) | (simp only [World.size_alloc, World.size_setCell, World.size_drew, size_setRow]; omega))) only [hq_at, hq_past, hq_drew, hq_drewN, hq_cell, hq_row, hq_same, rowOf_cells, Option.map_some, *]; rfl) | (simp (disch := (first | omega | (simp only [World.size_alloc, World.size_setCell, World.size_drew, size_setRow]; done) | (simp only [World.size_alloc, World.size_setCell, World.size_drew, size_setRow]; omega))) only [hq_at, hq_past, hq_drew, hq_drewN, hq_cell, hq_row, hq_same, rowOf_cells, Option.map_some, *]))); (· kernel_rfl); (try dsimp only [Act.put, List.setIfInBounds_toArray, List.set_cons_zero, List.set_cons_succ])) | ((with_reducible refine wpl_guard (isStore 30) ?_ ?_); (· rfl); refine wpl_store (t := ?_) (old := ?_) (w' := ?_) rfl 30 _ _ rfl rfl rfl ?_ ?_ ?_ ?_ ?_ ?_; rotate_left 2; (· (first | (with_reducible assumption) | (simp (disch := (first | omega | (simp only [World.size_alloc, World.size_setCell, World.size_drew, size_setRow]; done) | (simp only [World.size_alloc, World.size_setCell, World.size_drew, size_setRow]; omega))) only [hq_at, hq_past, hq_drew, hq_drewN, hq_cell, hq_row, hq_same, rowOf_cells, Option.map_some, *]; rfl) | (simp (disch := (first | omega | (simp only [World.size_alloc, World.size_setCell, World.size_drew, size_setRow]; done) | (simp only [World.size_alloc, World.size_setCell, World.size_drew, size_setRow]; omega))) only [hq_at, hq_past, hq_drew, hq_drewN, hq_cell, hq_row, hq_same, rowOf_cells, Option.map_some, *]))); (· kernel_rfl); (· rfl); (· rfl); rotate_left 1; (· (first | (simp (disch := (first | omega | (simp only [World.size_alloc, World.size_setCell, World.size_drew, size_setRow]; done) | (simp only [World.size_alloc, World.size_setCell, World.size_drew, size_setRow]; omega))) only [setRow_at, setRow_past, setRow_drew]; rfl) | rfl))))
    obtain ⟨WA, hWA, hEA, hGA⟩ := put_blk (W := w) (HE1.out.trans HE9.out) (Nat.le_refl _) hg4 #[.int .i64 (s : Int), .int .i64 (c : Int), .int .i64 (r : Int), .bool x, .bool y]
    rw [hWA]
    have bA := ext_blk hGA WA (Ext.refl _)
    refine bodyPost_ret (v := .tuple #[refV ((s : Int)) c r x y, .bool true]) ?_ rfl ⟨⟨_, _, rfl, ?_⟩, hEA⟩
    · simp [results, Tryd.results58, go_sem, bA]
    · exact HT.out s c r hs3 hc26 hr9 (by rw [← h23]; exact head_tail h2' (hb0.trans HC.out)) hTS hr (fun _ => HHD.out) (fun h => by cases h)
theorem parse_sound (s : ByteArray) (t : Int) (w : World) (hs : s.size ≤ 1000) (hE : EnvP w) :
    Calls Tryd.prog 58 #[.string s, .int .i64 t] w fun e w' => (∃ ref b, e = .returned (.tuple #[ref, .bool b]) ∧ Snd s.data.toList t ref b) ∧ Ext w w' := by
  obtain ⟨hd, l1, full, hcut, hl⟩ : ∃ hd l1 full, Lib.cut s.data.toList [33] = (hd, l1, full) ∧ if full then s.data.toList = hd ++ 33 :: l1 else hd = s.data.toList ∧ l1 = [] := by
    rcases cut_spec s.data.toList with ⟨a, b, h1, h2⟩ | h
    · exact ⟨a, b, true, h1, h2⟩
    · exact ⟨_, _, false, h, rfl, rfl⟩
  have hsz : s.data.toList.length ≤ 1000 := by have : s.size = s.data.toList.length := by simp
                                               omega
  have hz1 : hd.length ≤ 1000 ∧ (if full then l1 else s.data.toList).length ≤ 1000 := by
    cases full
    · obtain ⟨rfl, -⟩ := hl; exact ⟨hsz, hsz⟩
    · have h := congrArg List.length (show s.data.toList = hd ++ 33 :: l1 from hl)
      simp only [List.length_append, List.length_cons] at h
      simp only [if_true]
      omega
  obtain ⟨a1, ha1⟩ : ∃ a1, (if full then l1 else s.data.toList) = a1 := ⟨_, rfl⟩
  rw [ha1] at hz1
  have h1 := pre_spec a1
  have hz2 : (Lib.trimPrefix a1 [36]).length ≤ 1000 := Nat.le_trans (Lib.trimPrefix_le _ _) hz1.2
  obtain ⟨l2, hl2⟩ : ∃ l, Lib.trimPrefix a1 [36] = l := ⟨_, rfl⟩
  obtain ⟨x, hx⟩ : ∃ x, Lib.hasPrefix a1 [36] = x := ⟨_, rfl⟩
  rw [hl2] at h1 hz2
  rw [hx] at h1
  have h3 := pre_spec (l2.drop 1)
  have hz4 : (Lib.trimPrefix (l2.drop 1) [36]).length ≤ 1000 := Nat.le_trans (Lib.trimPrefix_le _ _) (by simp; omega)
  obtain ⟨l4, hl4⟩ : ∃ l, Lib.trimPrefix (l2.drop 1) [36] = l := ⟨_, rfl⟩
  obtain ⟨y, hy⟩ : ∃ x, Lib.hasPrefix (l2.drop 1) [36] = x := ⟨_, rfl⟩
  rw [hl4] at h3 hz4
  rw [hy] at h3
  obtain ⟨n, ok, hn, hat⟩ := atoiAny (mk l4) (by rw [mk_size]; exact hz4)
  refine parse_core2 s (mk l1) (mk l2) (mk (l2.drop 1)) (mk l4) (mk hd) (mk (Lib.itoa n)) full x y ok t n w hE (fun w hm => ?_) (fun w => ?_) (fun w => ?_) hat (fun h w hw => itoaAny n (hn h).1 (hn h).2 w hw) ?_ (by rw [mk_size]; exact hz2) (by rw [mk_size]; exact hz1.1) (Snd s.data.toList t) (.inl ⟨rfl, rfl⟩)
    (fun sh c r h1' h2' h3' e1 e2 e3 e4 e5 => ?_)
  · have := cutC s w hm hs
    rw [hcut] at this
    exact this
  · have e : (if full then mk l1 else s) = mk a1 := by
      rw [← ha1]
      cases full
      · exact ByteArray.ext (Array.ext' (by rw [mk_list]; rfl))
      · rfl
    rw [e]
    have := preC (mk a1) w
    rw [mk_list, hl2, hx] at this
    exact this
  · have := preC (mk (l2.drop 1)) w
    rw [mk_list, hl4, hy] at this
    exact this
  · refine ByteArray.ext (Array.ext' ?_)
    rw [ByteArray.data_extract, mk_size, mk_list]
    simp [mk]
    exact List.take_of_length_le (by simp)
  · rw [mk_list, mk_list] at e1
    refine snd_of (l1 := a1) (l2 := l2) (l3 := l2.drop 1) (l4 := l4) (hd := hd) (n := n) (full := full) h1' h2' h3' ?_ h1 e1 h3 ?_ e3 (fun h => by have := e4 h; rwa [mk_list] at this) e5
    · cases full
      · exact ha1
      · rw [← ha1]; exact hl
    · have := congrArg (fun b : ByteArray => b.data.toList) e2
      simpa [mk_list] using this.symm
end Go.Proofs.YtffogjhjgmohiaaDoor
