/-
  MathsOnes: walk. Conditions: the argument's own.
-/
import Derived.Test.YtiddefbjnhhiiaaMathsF
import Derived.MapKept
namespace Go.Proofs.Ytiddefbjnhhiiaa.mathsOnes
open Go.RowKit Num
set_option linter.unusedVariables false
set_option linter.unusedSimpArgs false

theorem getMap (w : World) (es : Array MapEntry) (c : Nat) : (w.alloc (.map es c)).heap[w.heap.size]? = some (.map es c) := heap_alloc_new w _
theorem setMap (w : World) (a b : Obj) : ({ w.alloc a with heap := (w.alloc a).heap.setIfInBounds w.heap.size b } : World) = w.alloc b := by
  have : (w.heap.push a).setIfInBounds w.heap.size b = w.heap.push b := by
    apply Array.ext_getElem?
    intro i
    rw [Array.getElem?_setIfInBounds, Array.getElem?_push, Array.getElem?_push, Array.size_push]
    by_cases h : w.heap.size = i
    · subst h; simp
    · rw [if_neg h, if_neg (fun e => h e.symm), if_neg (fun e => h e.symm)]
  exact congrArg (fun h => ({ w with heap := h } : World)) this
theorem ck (v : Bool) (w : World) (b : Bool) : (Instr.checkKey b 10000 4 (.bool v)).run Try.prog w = .ok () w := by
  show (Instr.checkKey b (9999 + 1) 4 (.bool v)).run Try.prog w = .ok () w
  rw [Instr.checkKey]
  simp [run_underlying Try.underlying4, Result.andThen]
theorem fk0 (v : Bool) (w : World) : (Instr.findKey 4 (.bool v) []).run Try.prog w = .ok none w := by
  simp [Instr.findKey, run_underlying Try.underlying4, Result.andThen, Instr.findNow]
def eT : MapEntry := { key := .bool true, val := .int .i64 1000000, born := 0 }
def eF : MapEntry := { key := .bool false, val := .int .i64 0, born := 1 }
theorem fk1 (w : World) : (Instr.findKey 4 (.bool false) [eT]).run Try.prog w = .ok none w := by
  simp [Instr.findKey, run_underlying Try.underlying4, Result.andThen, Instr.findNow, Instr.sameNow, eT]
theorem fkT (w : World) : (Instr.findKey 4 (.bool true) [eT, eF]).run Try.prog w = .ok (some (0, .int .i64 1000000)) w := by
  simp [Instr.findKey, run_underlying Try.underlying4, Result.andThen, Instr.findNow, Instr.sameNow, eT]
theorem fkF (w : World) : (Instr.findKey 4 (.bool false) [eT, eF]).run Try.prog w = .ok (some (1, .int .i64 0)) w := by
  simp [Instr.findKey, run_underlying Try.underlying4, Result.andThen, Instr.findNow, Instr.sameNow, eT, eF]
theorem put1 (w : World) : (Instr.mapUpdate 35 (.map (some w.heap.size)) (.bool true) (.int .i64 1000000)).run Try.prog (w.alloc (.map #[] 0)) = .ok () (w.alloc (.map #[eT] 1)) := by
  have h := setMap w (.map #[] 0) (.map #[eT] 1)
  simp [Instr.mapUpdate, run_underlying Try.underlying35, MapKept.run_getObj_map (getMap w _ _), ck, fk0, MapKept.run_setObj_map _ (getMap w _ _), Result.andThen]
  exact h
theorem put2 (w : World) : (Instr.mapUpdate 35 (.map (some w.heap.size)) (.bool false) (.int .i64 0)).run Try.prog (w.alloc (.map #[eT] 1)) = .ok () (w.alloc (.map #[eT, eF] 2)) := by
  have h := setMap w (.map #[eT] 1) (.map #[eT, eF] 2)
  simp [Instr.mapUpdate, run_underlying Try.underlying35, MapKept.run_getObj_map (getMap w _ _), ck, fk1, MapKept.run_setObj_map _ (getMap w _ _), Result.andThen]
  exact h
theorem look (w w' : World) (c : Bool) (r : Nat) (h : w'.heap[r]? = some (.map #[eT, eF] 2)) : (Instr.lookup 35 (.map (some r)) (.bool c) false).run Try.prog w' = .ok (.int .i64 (if c then 1000000 else 0)) w' := by
  cases c <;> simp [Instr.lookup, run_underlying Try.underlying35, MapKept.run_getObj_map h, ck, fkT, fkF, Result.andThen]
theorem put1n (w : World) (n : Nat) (h : n = w.heap.size) : (Instr.mapUpdate 35 (.map (some n)) (.bool true) (.int .i64 1000000)).run Try.prog (w.alloc (.map #[] 0)) = .ok () (w.alloc (.map #[eT] 1)) := by subst h; exact put1 w
theorem put2n (w : World) (n : Nat) (h : n = w.heap.size) : (Instr.mapUpdate 35 (.map (some n)) (.bool false) (.int .i64 0)).run Try.prog (w.alloc (.map #[eT] 1)) = .ok () (w.alloc (.map #[eT, eF] 2)) := by subst h; exact put2 w
theorem lookT (w : World) (n : Nat) (h : n = w.heap.size) : (Instr.lookup 35 (.map (some n)) (.bool true) false).run Try.prog (w.alloc (.map #[eT, eF] 2)) = .ok (.int .i64 1000000) (w.alloc (.map #[eT, eF] 2)) := by subst h; exact look w _ true _ (heap_alloc_new w _)
theorem lookF (w : World) (n : Nat) (h : n = w.heap.size) : (Instr.lookup 35 (.map (some n)) (.bool false) false).run Try.prog (w.alloc (.map #[eT, eF] 2)) = .ok (.int .i64 0) (w.alloc (.map #[eT, eF] 2)) := by subst h; exact look w _ false _ (heap_alloc_new w _)
theorem mk (w : World) : (Instr.makeMap 35 none).run Try.prog w = .ok (.map (some w.heap.size)) (w.alloc (.map #[] 0)) := rfl

theorem av (n r : Int) (odd : Bool) (hn : 0 ≤ n) : (r = 0 → n ≤ awayV n r odd ∧ awayV n r odd ≤ n + 1) ∧ (r ≠ 0 → n + 1 ≤ awayV n r odd ∧ awayV n r odd ≤ n + 2) ∧ (awayV n r odd % 2 = if odd then 1 else 0) := by
  unfold awayV
  by_cases hr : r = 0
  · simp only [hr, if_true]
    by_cases p : n % 2 = 1 <;> cases odd <;> simp [p] <;> omega
  · simp only [hr, if_false]
    by_cases p : (n + 1) % 2 = 1 <;> cases odd <;> simp [p] <;> omega
theorem away_law (b : Int) (odd : Bool) (h : Mant b) : ∃ n, awayN b odd = n ∧ (0 ≤ b → 0 ≤ n ∧ b ≤ n * 1000000 ∧ n * 1000000 - b < 2000000) ∧ (b < 0 → n < 0 ∧ -b ≤ -(n * 1000000) ∧ -(n * 1000000) - -b < 2000000) ∧ n.tmod 2 = (if odd then (if b < 0 then -1 else 1) else 0) := by
  refine ⟨_, rfl, ?_⟩
  unfold awayN
  by_cases hb : b < 0
  · rw [if_pos hb, tdiv_if b _ (by omega), if_neg (by omega), tmod_if b _, if_neg (by omega), Int.neg_neg]
    obtain ⟨h1, h2, h3⟩ := av (-b / 1000000) (-(-b % 1000000)) odd (by omega)
    obtain ⟨v, hv⟩ : ∃ v, awayV (-b / 1000000) (-(-b % 1000000)) odd = v := ⟨_, rfl⟩
    rw [hv] at h1 h2 h3 ⊢
    refine ⟨fun h => by omega, fun _ => ?_, ?_⟩
    · by_cases hr : -(-b % 1000000) = 0
      · have := h1 hr; omega
      · have := h2 hr; omega
    · have hv0 : 0 < v := by
        by_cases hr : -(-b % 1000000) = 0
        · have := h1 hr; omega
        · have := h2 hr; omega
      rw [tmod_if, if_neg (by omega), Int.neg_neg, h3, if_pos hb]
      cases odd <;> rfl
  · rw [if_neg hb, tdiv_if b _ (by omega), if_pos (by omega), tmod_if b _, if_pos (by omega)]
    obtain ⟨h1, h2, h3⟩ := av (b / 1000000) (b % 1000000) odd (by omega)
    obtain ⟨v, hv⟩ : ∃ v, awayV (b / 1000000) (b % 1000000) odd = v := ⟨_, rfl⟩
    rw [hv] at h1 h2 h3 ⊢
    have hv0 : 0 ≤ v := by
      by_cases hr : b % 1000000 = 0
      · have := h1 hr; omega
      · have := h2 hr; omega
    refine ⟨fun _ => ?_, fun h => by omega, ?_⟩
    · by_cases hr : b % 1000000 = 0
      · have := h1 hr; omega
      · have := h2 hr; omega
    · rw [tmod_if, if_pos hv0, h3, if_neg hb]
def SB (W : World) (g : Nat) (L : List ByteArray) : Prop := g < W.heap.size ∧ ∀ j, j < L.length → W.cell? ⟨g, j, none⟩ = some (.string (L.getD j ⟨#[]⟩))
theorem SB.step {W W' : World} {g : Nat} {L : List ByteArray} (h : SB W g L) (hE : Ext W W') : SB W' g L :=
  ⟨Nat.lt_of_lt_of_le h.1 hE.size, fun j hj => ext_cell h.1 (h.2 j hj) _ hE⟩
theorem SB.new (w : World) (L : List ByteArray) (t : TypeId) : SB (w.alloc (.cells (L.map Value.string).toArray t)) w.heap.size L := by
  refine ⟨by simp, fun j hj => ?_⟩
  rw [World.cell?_alloc_new, List.getElem?_toArray, List.getElem?_map, List.getD_eq_getElem?_getD, List.getElem?_eq_getElem hj]
  rfl

theorem none_none : ∀ l ∈ [[65, 66, 83], [83, 73, 71, 78], [73, 78, 84], [84, 82, 85, 78, 67], [69, 86, 69, 78], [79, 68, 68], [70, 65, 67, 84]], (({ data := #[78, 79, 78, 69] } : ByteArray).toList == (l : List UInt8)) = false := by
  intro l hl
  refine str_ne ?_
  simp at hl
  rcases hl with rfl | rfl | rfl | rfl | rfl | rfl | rfl <;> decide
theorem trunc_q (b : Int) (h : Mant b) : ∃ q t, b.tdiv 1000000 = q ∧ q * 1000000 = t ∧ b - b.tmod 1000000 = t ∧ Mant t ∧ -9223372036854 ≤ q ∧ q ≤ 9223372036854 := by
  refine ⟨_, _, rfl, rfl, ?_, ?_, ?_⟩
  · rw [tmod_if b _, tdiv_if b _ (by omega)]
    split <;> omega
  · unfold Mant at *
    rw [tdiv_if b _ (by omega)]
    split <;> omega
  · unfold Mant at *
    rw [tdiv_if b _ (by omega)]
    split <;> omega

set_option maxHeartbeats 1600000 in
set_option maxRecDepth 100000 in
theorem walk (a : Int) (w : World) (wa : (Lit.int .i64 a).wf = true) :
    Calls Try.prog 6 #[.int .i64 a] w fun e w' => e = .returned (.bool true) ∧ Below w.heap.size w w' := by
  have ha := bounds_i64 wa
  clear wa
  obtain ⟨b, hb⟩ : ∃ b, rightV a = b := ⟨_, rfl⟩
  have hbm : Mant b := by rw [← hb]; exact rightV_mant ha
  have hrt := fun w => right_any a w
  rw [hb] at hrt
  have HRT := Lib.hid hrt
  have HBM := Lib.hid hbm
  obtain ⟨b1, b2⟩ := hbm
  clear hrt hb
  go_enter Try.func6, Try.ntmps6
  go_wp2_with fail
  refine (fit_any _).mono ?_
  rintro e w1 ⟨rfl, hE1⟩
  go_wp2_with fail
  refine (HRT.out _).mono ?_
  rintro e w2 ⟨rfl, hE2'⟩
  have hE2 := hE1.trans hE2'
  clear hE1 hE2'
  go_wp2_with fail
  refine (floor_any b _ HBM.out).mono ?_
  rintro e w3 hp
  obtain ⟨V, Bo, rfl, hfe, rfl⟩ := floor_open HBM.out hp
  clear hp
  obtain ⟨q, t, hq, ht, htt, htm, hq1, hq2⟩ := trunc_q b HBM.out
  obtain ⟨A, hA⟩ : ∃ A, absV b = A := ⟨_, rfl⟩
  obtain ⟨K, hK⟩ : ∃ K, oK (floO b) = K := ⟨_, rfl⟩
  obtain ⟨N, hN⟩ : ∃ N, oN (floO b) = N := ⟨_, rfl⟩
  obtain ⟨SK, hSK⟩ : ∃ K, oK (ofO (sgnV b)) = K := ⟨_, rfl⟩
  obtain ⟨SN, hSN⟩ : ∃ N, oN (ofO (sgnV b)) = N := ⟨_, rfl⟩
  have e1 : CallE Try.prog w2 _ _ _ := fun w' _ => one_abs b w' HBM.out
  have e2 : CallE Try.prog w2 _ _ _ := fun w' _ => one_int b w' HBM.out
  have e3 : CallE Try.prog w2 _ _ _ := fun w' _ => one_trunc b w' HBM.out
  have e4 : CallE Try.prog w2 14 #[.string { data := #[78, 79, 78, 69] }, .int .i64 b] (.agg #[.int .i64 4, .int .i64 2, .string { data := #[] }]) := fun w' _ => one_other { data := #[78, 79, 78, 69] } b w' HBM.out (none_none _ (by simp)) (none_none _ (by simp)) (none_none _ (by simp)) (none_none _ (by simp)) (none_none _ (by simp)) (none_none _ (by simp)) (none_none _ (by simp))
  have e5 : CallE Try.prog w2 _ _ _ := fun w' _ => one_sign b w' HBM.out
  have e6 : CallE Try.prog w2 16 #[.int .i64 A] (.agg #[.int .i64 1, .int .i64 A, .string { data := #[] }]) := fun w' _ => vnum_any A w'
  have e7 : CallE Try.prog w2 16 #[.int .i64 t] (.agg #[.int .i64 1, .int .i64 t, .string { data := #[] }]) := fun w' _ => vnum_any t w'
  have e8 : CallE Try.prog w2 12 #[.int .i64 5] (.agg #[.int .i64 4, .int .i64 5, .string { data := #[] }]) := fun w' _ => vfail_any 5 w'
  have e9 : CallE Try.prog w2 12 #[.int .i64 2] (.agg #[.int .i64 4, .int .i64 2, .string { data := #[] }]) := fun w' _ => vfail_any 2 w'
  have e10 : CallE Try.prog w2 16 #[.int .i64 V] (.agg #[.int .i64 1, .int .i64 V, .string { data := #[] }]) := fun w' _ => vnum_any V w'
  rw [hA] at e1
  rw [hK, hN] at e2
  rw [htt] at e3
  rw [hSK, hSN] at e5
  have hr : Ext w2 w2 := Ext.refl _
  have rt : IntKind.i64.wrap t = t := by unfold Mant at htm; rw [IntKind.wrap_i64]; omega
  have HSK := Lib.hid hSK
  have HSN := Lib.hid hSN
  have hKN : (∃ z, floO b = some z ∧ Bo = true ∧ V = z) ∨ (floO b = none ∧ Bo = false) := by
    rcases hfe with ⟨s, hs, hsm, h1, h2⟩ | ⟨hs, c, h1, h2⟩
    · exact .inl ⟨s, hs, by injection h2, by injection h1⟩
    · exact .inr ⟨hs, by injection h2⟩
  have HKN := Lib.hid hKN
  clear hfe htt hSK hSN hKN
  go_upto_region 5 with (fail)
  go_cut [63] (fun c wx => c = .bool false ∧ Ext w2 wx)
  case first =>
    have hA2 : (b < 0 → -b = A) ∧ (¬ b < 0 → b = A) := by
      rw [← hA, absV]
      exact ⟨fun h => by rw [if_pos h], fun h => by rw [if_neg h]⟩
    clear hA
    rcases HKN.out with ⟨z, hz, rfl, rfl⟩ | ⟨hz, rfl⟩
    · rw [hz] at hK hN
      obtain rfl : (1 : Int) = K := hK
      obtain rfl : V = N := hN
      clear hz
      by_cases h0 : b < 0
      · obtain rfl := hA2.1 h0
        have g : b < -b := by omega
        clear hA2
        go_wp2_with (first | ((with_reducible refine (CallE.at_ (by assumption) (by assumption)).mono ?_); rintro e w' ⟨rfl, hEx⟩))
        go_meet
        case rel => exact ⟨rfl, by assumption⟩
      · obtain rfl := hA2.2 h0
        have g : ¬ b < -b := by omega
        clear hA2
        go_wp2_with (first | ((with_reducible refine (CallE.at_ (by assumption) (by assumption)).mono ?_); rintro e w' ⟨rfl, hEx⟩))
        go_meet
        case rel => exact ⟨rfl, by assumption⟩
    · rw [hz] at hK hN
      obtain rfl : (4 : Int) = K := hK
      obtain rfl : (5 : Int) = N := hN
      clear hz
      by_cases h0 : b < 0
      · obtain rfl := hA2.1 h0
        have g : b < -b := by omega
        clear hA2
        go_wp2_with (first | ((with_reducible refine (CallE.at_ (by assumption) (by assumption)).mono ?_); rintro e w' ⟨rfl, hEx⟩))
        go_meet
        case rel => exact ⟨rfl, by assumption⟩
      · obtain rfl := hA2.2 h0
        have g : ¬ b < -b := by omega
        clear hA2
        go_wp2_with (first | ((with_reducible refine (CallE.at_ (by assumption) (by assumption)).mono ?_); rintro e w' ⟨rfl, hEx⟩))
        go_meet
        case rel => exact ⟨rfl, by assumption⟩
  case rest =>
    obtain ⟨rfl, hEc⟩ := hcut
    have e5' := Lib.hid (e5.more hEc)
    clear e1 e2 e3 e4 e5 e6 e7 e8 e9 e10 hr rt
    go_wp2_with fail
    refine ((e5'.out).at_ (Ext.refl _)).mono ?_
    rintro e w5 ⟨rfl, hE5⟩
    obtain ⟨W6, hW6, hE6, hX6, hs6⟩ := box_new w5 SK SN { data := #[] }
    have HW6 := Lib.hid hW6
    have hEw6 : Ext w W6 := ((Ext.trans hE2 hEc).trans hE5).trans hE6
    obtain ⟨x0, x1, x2, x3⟩ := hX6
    simp only at x1 x2 x3
    have hS : (b < 0 → SN = -1000000) ∧ (b = 0 → SN = 0) ∧ (0 < b → SN = 1000000) := by
      rw [← HSN.out]
      unfold sgnV
      refine ⟨fun h => by rw [if_pos h]; decide, fun h => by subst h; decide, fun h => by rw [if_neg (by omega), if_neg (by omega)]; decide⟩
    have m0 := mk
    have m1 := put1n
    have m2 := put2n
    have m3 := lookT
    have m4 := lookF
    clear hW6 e5' hE2 hEc hE5 hE6 hs6 hA hK hN hq ht htm hq1 hq2
    go_upto_region 8 with (fail)
    rw [HW6.out]
    go_cut [79] (fun c wx => c = .bool false ∧ Ext W6 wx)
    case first =>
      rcases Int.lt_trichotomy b 0 with h | h | h
      · obtain rfl := hS.1 h
        have h2 : ¬ 0 < b := by omega
        clear hS
        go_wp2_with fail
        go_meet
        case rel => exact ⟨rfl, (below_alloc _ _).trans ((below_alloc _ _).mono (by simp))⟩
      · obtain rfl := hS.2.1 h
        have h1 : ¬ b < 0 := by omega
        have h2 : ¬ 0 < b := by omega
        clear hS h
        go_wp2_with fail
        go_meet
        case rel => exact ⟨rfl, (below_alloc _ _).trans ((below_alloc _ _).mono (by simp))⟩
      · obtain rfl := hS.2.2 h
        have h1 : ¬ b < 0 := by omega
        clear hS
        go_wp2_with fail
        go_meet
        case rel => exact ⟨rfl, (below_alloc _ _).trans ((below_alloc _ _).mono (by simp))⟩
    case rest =>
      obtain ⟨rfl, hEd⟩ := hcut
      have hEw7 := hEw6.trans hEd
      clear m0 m1 m2 m3 m4 hEw6 hEd hS HSN x0 x1 x2 x3
      go_wp2_with fail
      have hL : SB (wc.alloc (.cells #[.string { data := #[69, 86, 69, 78] }, .string { data := #[79, 68, 68] }] 9)) wc.heap.size [{ data := #[69, 86, 69, 78] }, { data := #[79, 68, 68] }] := SB.new wc [{ data := #[69, 86, 69, 78] }, { data := #[79, 68, 68] }] _
      go_loopw [82] (fun si wr => ∃ i : Nat, i ≤ 2 ∧ si = .int .i64 (i : Int) ∧ SB wr wc.heap.size [{ data := #[69, 86, 69, 78] }, { data := #[79, 68, 68] }] ∧ Ext wc wr) (fun si _ => 2 - (intOf si).toNat)
      case atStart => exact ⟨0, by omega, rfl, hL, below_alloc _ _⟩
      case round =>
        obtain ⟨i, hi, rfl, hS, hE⟩ := hrel
        have HS := Lib.hid hS
        obtain ⟨g0, gS⟩ := hS
        have c0 := gS 0 (by simp)
        have c1 := gS 1 (by simp)
        simp only [List.getD_cons_zero, List.getD_cons_succ] at c0 c1
        clear gS hL
        have hi3 : i = 0 ∨ i = 1 ∨ i = 2 := by omega
        rcases hi3 with rfl | rfl | rfl
        · obtain ⟨n, hn, l1, l2, l3⟩ := away_law b false HBM.out
          have hc := fun w => one_even b w HBM.out
          rw [hn] at hc
          unfold ofO at hc
          by_cases hf : -9223372036854 ≤ n ∧ n ≤ 9223372036854
          · rw [if_pos hf] at hc
            obtain ⟨z, hz⟩ : ∃ z, n * 1000000 = z := ⟨_, rfl⟩
            have hw := fun w => whole_any z w (by omega)
            rw [show z.tdiv 1000000 = n by rw [← hz]; exact Int.mul_tdiv_cancel _ (by decide), show z.tmod 1000000 = 0 by rw [← hz]; exact Int.mul_tmod_left _ _] at hw
            rw [hz] at hc l1 l2
            have HC : Hid (∀ w, Calls Try.prog 14 _ w (RetV 1 z { data := #[] } w)) := hc
            have HWH : Hid (∀ w, Calls Try.prog 18 #[.int .i64 z] w fun e w' => e = .returned (.tuple #[.int .i64 n, .bool true]) ∧ w = w') := hw
            have hzb : -9223372036854000000 ≤ z ∧ z ≤ 9223372036854000000 := by omega
            clear hc hw hz hn hf
            by_cases h0 : b < 0
            · obtain ⟨p1, p2, p3⟩ := l2 h0
              have q1 : z < 0 := by omega
              have q2 : z < -z := by omega
              have q3 : b < -b := by omega
              have q4 : (b != 0) = true := by simp; omega
              simp only [h0, if_true, Bool.false_eq_true, if_false] at l3
              clear l1 l2
              go_wp2_with fail
              refine (HC.out _).mono ?_
              rintro e w8 ⟨rfl, hE8⟩
              go_wp2_with fail
              refine (HWH.out _).mono ?_
              rintro e w9 ⟨rfl, rfl⟩
              go_wp2_with fail
              go_roundw
              case rel => exact ⟨1, by omega, by first | rfl | go_num, HS.out.step (Below.al hE8 _), hE.trans (Below.al hE8 _)⟩
              case measure => simp [intOf]
            · obtain ⟨p1, p2, p3⟩ := l1 (by omega)
              have q1 : ¬ z < 0 := by omega
              have q2 : ¬ z < -z := by omega
              have q3 : ¬ b < -b := by omega
              have t1 : decide (z < 0) = false := by simp; omega
              have t2 : decide (b < 0) = false := by simp; omega
              have t3 : ¬ z - b < 0 := by omega
              have t4 : ¬ 2000000 ≤ z - b := by omega
              simp only [h0, if_true, Bool.false_eq_true, if_false] at l3
              clear l1 l2
              cases hb0 : b != 0
              · go_wp2_with fail
                refine (HC.out _).mono ?_
                rintro e w8 ⟨rfl, hE8⟩
                go_wp2_with fail
                refine (HWH.out _).mono ?_
                rintro e w9 ⟨rfl, rfl⟩
                go_wp2_with fail
                go_roundw
                case rel => exact ⟨1, by omega, by first | rfl | go_num, HS.out.step (Below.al hE8 _), hE.trans (Below.al hE8 _)⟩
                case measure => simp [intOf]
              · go_wp2_with fail
                refine (HC.out _).mono ?_
                rintro e w8 ⟨rfl, hE8⟩
                go_wp2_with fail
                refine (HWH.out _).mono ?_
                rintro e w9 ⟨rfl, rfl⟩
                go_wp2_with fail
                go_roundw
                case rel => exact ⟨1, by omega, by first | rfl | go_num, HS.out.step (Below.al hE8 _), hE.trans (Below.al hE8 _)⟩
                case measure => simp [intOf]
          · rw [if_neg hf] at hc
            have HC : Hid (∀ w, Calls Try.prog 14 _ w (RetV 4 5 { data := #[] } w)) := hc
            have hbig : (b < 0 → 9223372036852000000 ≤ -b) ∧ (¬ b < 0 → 9223372036852000000 ≤ b) := by
              refine ⟨fun h => ?_, fun h => ?_⟩
              · have := l2 h; omega
              · have := l1 (by omega); omega
            clear hc hn hf l1 l2 l3
            by_cases h0 : b < 0
            · have g := hbig.1 h0
              have q3 : b < -b := by omega
              clear hbig
              go_wp2_with fail
              refine (HC.out _).mono ?_
              rintro e w8 ⟨rfl, hE8⟩
              go_wp2_with fail
              go_roundw
              case rel => exact ⟨1, by omega, by first | rfl | go_num, HS.out.step (Below.al hE8 _), hE.trans (Below.al hE8 _)⟩
              case measure => simp [intOf]
            · have g := hbig.2 h0
              have q3 : ¬ b < -b := by omega
              clear hbig
              go_wp2_with fail
              refine (HC.out _).mono ?_
              rintro e w8 ⟨rfl, hE8⟩
              go_wp2_with fail
              go_roundw
              case rel => exact ⟨1, by omega, by first | rfl | go_num, HS.out.step (Below.al hE8 _), hE.trans (Below.al hE8 _)⟩
              case measure => simp [intOf]
        · obtain ⟨n, hn, l1, l2, l3⟩ := away_law b true HBM.out
          have hc := fun w => one_odd b w HBM.out
          rw [hn] at hc
          unfold ofO at hc
          by_cases hf : -9223372036854 ≤ n ∧ n ≤ 9223372036854
          · rw [if_pos hf] at hc
            obtain ⟨z, hz⟩ : ∃ z, n * 1000000 = z := ⟨_, rfl⟩
            have hw := fun w => whole_any z w (by omega)
            rw [show z.tdiv 1000000 = n by rw [← hz]; exact Int.mul_tdiv_cancel _ (by decide), show z.tmod 1000000 = 0 by rw [← hz]; exact Int.mul_tmod_left _ _] at hw
            rw [hz] at hc l1 l2
            have HC : Hid (∀ w, Calls Try.prog 14 _ w (RetV 1 z { data := #[] } w)) := hc
            have HWH : Hid (∀ w, Calls Try.prog 18 #[.int .i64 z] w fun e w' => e = .returned (.tuple #[.int .i64 n, .bool true]) ∧ w = w') := hw
            have hzb : -9223372036854000000 ≤ z ∧ z ≤ 9223372036854000000 := by omega
            clear hc hw hz hn hf
            by_cases h0 : b < 0
            · obtain ⟨p1, p2, p3⟩ := l2 h0
              have q1 : z < 0 := by omega
              have q2 : z < -z := by omega
              have q3 : b < -b := by omega
              have q4 : (b != 0) = true := by simp; omega
              simp only [h0, if_true, Bool.false_eq_true, if_false] at l3
              clear l1 l2
              go_wp2_with fail
              refine (HC.out _).mono ?_
              rintro e w8 ⟨rfl, hE8⟩
              go_wp2_with fail
              refine (HWH.out _).mono ?_
              rintro e w9 ⟨rfl, rfl⟩
              go_wp2_with fail
              go_roundw
              case rel => exact ⟨2, by omega, by first | rfl | go_num, HS.out.step (Below.al hE8 _), hE.trans (Below.al hE8 _)⟩
              case measure => simp [intOf]
            · obtain ⟨p1, p2, p3⟩ := l1 (by omega)
              have q1 : ¬ z < 0 := by omega
              have q2 : ¬ z < -z := by omega
              have q3 : ¬ b < -b := by omega
              have t1 : decide (z < 0) = false := by simp; omega
              have t2 : decide (b < 0) = false := by simp; omega
              have t3 : ¬ z - b < 0 := by omega
              have t4 : ¬ 2000000 ≤ z - b := by omega
              simp only [h0, if_true, Bool.false_eq_true, if_false] at l3
              clear l1 l2
              cases hb0 : b != 0
              · go_wp2_with fail
                refine (HC.out _).mono ?_
                rintro e w8 ⟨rfl, hE8⟩
                go_wp2_with fail
                refine (HWH.out _).mono ?_
                rintro e w9 ⟨rfl, rfl⟩
                go_wp2_with fail
                go_roundw
                case rel => exact ⟨2, by omega, by first | rfl | go_num, HS.out.step (Below.al hE8 _), hE.trans (Below.al hE8 _)⟩
                case measure => simp [intOf]
              · go_wp2_with fail
                refine (HC.out _).mono ?_
                rintro e w8 ⟨rfl, hE8⟩
                go_wp2_with fail
                refine (HWH.out _).mono ?_
                rintro e w9 ⟨rfl, rfl⟩
                go_wp2_with fail
                go_roundw
                case rel => exact ⟨2, by omega, by first | rfl | go_num, HS.out.step (Below.al hE8 _), hE.trans (Below.al hE8 _)⟩
                case measure => simp [intOf]
          · rw [if_neg hf] at hc
            have HC : Hid (∀ w, Calls Try.prog 14 _ w (RetV 4 5 { data := #[] } w)) := hc
            have hbig : (b < 0 → 9223372036852000000 ≤ -b) ∧ (¬ b < 0 → 9223372036852000000 ≤ b) := by
              refine ⟨fun h => ?_, fun h => ?_⟩
              · have := l2 h; omega
              · have := l1 (by omega); omega
            clear hc hn hf l1 l2 l3
            by_cases h0 : b < 0
            · have g := hbig.1 h0
              have q3 : b < -b := by omega
              clear hbig
              go_wp2_with fail
              refine (HC.out _).mono ?_
              rintro e w8 ⟨rfl, hE8⟩
              go_wp2_with fail
              go_roundw
              case rel => exact ⟨2, by omega, by first | rfl | go_num, HS.out.step (Below.al hE8 _), hE.trans (Below.al hE8 _)⟩
              case measure => simp [intOf]
            · have g := hbig.2 h0
              have q3 : ¬ b < -b := by omega
              clear hbig
              go_wp2_with fail
              refine (HC.out _).mono ?_
              rintro e w8 ⟨rfl, hE8⟩
              go_wp2_with fail
              go_roundw
              case rel => exact ⟨2, by omega, by first | rfl | go_num, HS.out.step (Below.al hE8 _), hE.trans (Below.al hE8 _)⟩
              case measure => simp [intOf]
        · go_wp2_with fail
          go_ret
          exact ⟨rfl, hEw7.trans hE⟩
end Go.Proofs.Ytiddefbjnhhiiaa.mathsOnes
