/-
  ParseCalls: walk. Conditions: the arguments' own.
-/
import Derived.Test.YtffogjhjgmohiaaDoorParT
import Derived.Test.YtffogjhjgmohiaaDoorParW
namespace Go.Proofs.YtffogjhjgmohiaaDoor.parseCalls
open Go.RowKit
set_option linter.unusedVariables false
set_option linter.unusedSimpArgs false

theorem mk_app (a b : List UInt8) : mk a ++ mk b = mk (a ++ b) := by
  apply ByteArray.ext
  simp [mk]
theorem ones_len : ∀ n, (onesS n).length ≤ 2 * n
  | 0 => Nat.le_refl _
  | 1 => by simp [onesS]
  | n + 2 => by have := ones_len (n + 1); simp [onesS]; omega
theorem calls_len {f n : Nat} (hf : f < 54) (hn : n < 11) : (callsS f n).length ≤ 100 := by
  have h1 := (fn_facts f hf).2.1
  have h2 := ones_len n
  have h3 : (fnN f).length ≤ 20 := by unfold fnN; rw [List.length_take]; omega
  unfold callsS
  simp
  omega
theorem ones_next (f i : Nat) : (callsS f i ++ if i = 0 then [] else [44]) ++ [49] = callsS f (i + 1) := by
  unfold callsS
  cases i with
  | zero => simp [onesS]
  | succ i => simp [onesS]
set_option maxRecDepth 100000 in
set_option maxHeartbeats 8000000 in
theorem walk (f n : Int) (W : World) (wf : (Lit.int .i64 f).wf = true) (wn : (Lit.int .i64 n).wf = true) (hE : EnvX W) :
    Calls Tryd.prog 6 #[.int .i64 f, .int .i64 n] W fun e w' => e = .returned (.bool true) ∧ Below W.heap.size W w' := by
  have HE := Lib.hid hE
  have HF := Lib.hid (fit6 W hE)
  clear hE
  obtain ⟨F, hF, hF54⟩ := cyc 54 f (by omega) (by omega)
  obtain ⟨N, hN, hN11⟩ := cyc 11 n (by omega) (by omega)
  simp only [Int.cast_ofNat_Int] at hF hN
  have hw1 : wrap64 ((F : Int) + 1) = (F : Int) + 1 := IntWalk.wrap64_in _ ⟨by omega, by omega⟩
  go_enter Tryd.func6, Tryd.ntmps6
  go_wp2_with fail
  refine HF.out.mono ?_
  rintro e w2 ⟨rfl, hX2⟩
  have HX2 := Lib.hid hX2
  clear hX2 HF
  go_wp2_with fail
  refine (name_any ((F : Int) + 1) w2 (HE.out.ext HX2.out).1.1).mono ?_
  rintro e w3 ⟨rfl, hX3⟩
  have HX3 := Lib.hid (HX2.out.trans hX3)
  have hname : nameOf ((F : Int) + 1) = fnN F := by unfold nameOf; rw [if_pos (by omega), show ((F : Int) + 1).toNat - 1 = F by omega]
  obtain ⟨NM, hNM⟩ : ∃ NM : ByteArray, (⟨(nameOf ((F : Int) + 1)).toArray⟩ : ByteArray) = NM := ⟨_, rfl⟩
  have hnsz : (NM.size : Int) ≤ 100 := by
    rw [← hNM, hname]
    have := calls_len hF54 (show 0 < 11 by omega)
    have h2 : (mk (fnN F)).size = (fnN F).length := mk_size _
    unfold callsS at this
    simp at this
    show ((mk (fnN F)).size : Int) ≤ 100
    omega
  have HA0 : Hid (NM ++ ⟨#[40]⟩ = mk (callsS F 0)) := Lib.hid (by
    rw [← hNM, hname]
    exact mk_app (fnN F) [40])
  rw [hNM]
  have HF54 := Lib.hid hF54
  have HN11 := Lib.hid hN11
  have hN10 : (N : Int) < 11 := by omega
  clear hX3 hname hNM hF hN hw1 hF54 hN11
  go_wp2_with fail
  go_loopw [5, 25] (fun sa si wr => ∃ i : Nat, i ≤ N ∧ si = .int .i64 (i : Int) ∧ ∃ A : ByteArray, sa = .string A ∧ Hid (A = mk (callsS F i)) ∧ w3 = wr) (fun _ si _ => N - (intOf si).toNat)
  case atStart => exact ⟨0, Nat.zero_le _, rfl, _, rfl, HA0, rfl⟩
  case round =>
    obtain ⟨i, hi, rfl, A, rfl, HA, rfl⟩ := hrel
    have hA : (A.size : Int) ≤ 100 := by rw [HA.out, mk_size]; have := calls_len HF54.out (show i < 11 by omega); omega
    by_cases hiN : i = N
    · subst hiN
      have HAL : Hid (A.size = (callsS F i).length) := Lib.hid (by rw [HA.out, mk_size])
      have hS : A ++ ⟨#[41]⟩ = mk (callsS F i ++ [41]) := by rw [HA.out]; exact mk_app _ _
      have HPS := Lib.hid (fun R hR => pars_any (callsS F i ++ [41]) 0 R w3 hR (by decide) (HE.out.ext HX3.out))
      have HD := Lib.hid (calls_at HF54.out HN11.out)
      clear hi
      go_upto_region 12 with (fail)
      go_wp2_with fail
      clear hS
      rcases HD.out with ⟨hfit, s, l, hR, hk, hop, hl⟩ | ⟨hfit, hR⟩
      · refine (HPS.out _ hR).mono ?_
        rintro e w4 ⟨hX4, ⟨t', g, hRe, rfl, hRep⟩ | ⟨c, p, hRe, -⟩⟩
        case inr => cases hRe
        injection hRe with hRe
        subst hRe
        obtain ⟨p1, cap1, rfl⟩ := hRep.own
        obtain ⟨W5, hW5, hE5, hG5, hL5, hS5⟩ := new_blk w4 (s.fl p1 l.length cap1).cells 33
        have HW5 := Lib.hid hW5
        have HX5 := Lib.hid (hX4.trans hE5)
        have HG5 := Lib.hid hG5
        have HFT := Lib.hid (fits_any ((F : Int) + 1) (i : Int) W5 (HE.out.ext (HX3.out.trans HX5.out)).1.1)
        rw [hfit] at HFT
        have HK := Lib.hid hk
        have HOP := Lib.hid hop
        have HL := Lib.hid hl
        clear hX4 hRep hW5 hE5 hG5 hL5 hS5 HPS HD hR hfit hk hop hl
        unfold Fl.val
        go_upto_region 13 with (first | ((with_reducible refine wpl_guard (isStore 33) ?_ ?_); (· rfl); refine wpl_store (t := ?_) (old := ?_) (w' := ?_) rfl 33 _ _ rfl rfl rfl ?_ ?_ ?_ ?_ ?_ ?_; rotate_left 2; (· (first | (with_reducible assumption) | (simp (disch := (first | omega | (simp only [World.size_alloc, World.size_setCell, World.size_drew, size_setRow]; done) | (simp only [World.size_alloc, World.size_setCell, World.size_drew, size_setRow]; omega))) only [hq_at, hq_past, hq_drew, hq_drewN, hq_cell, hq_row, hq_same, rowOf_cells, Option.map_some, *]; rfl) | (simp (disch := (first | omega | (simp only [World.size_alloc, World.size_setCell, World.size_drew, size_setRow]; done) | (simp only [World.size_alloc, World.size_setCell, World.size_drew, size_setRow]; omega))) only [hq_at, hq_past, hq_drew, hq_drewN, hq_cell, hq_row, hq_same, rowOf_cells, Option.map_some, *]))); (· kernel_rfl); (· rfl); (· rfl); rotate_left 1; (· (first | (simp (disch := (first | omega | (simp only [World.size_alloc, World.size_setCell, World.size_drew, size_setRow]; done) | (simp only [World.size_alloc, World.size_setCell, World.size_drew, size_setRow]; omega))) only [setRow_at, setRow_past, setRow_drew]; rfl) | rfl))))
        rw [HW5.out]
        clear HW5
        go_wp2_with fail
        refine HFT.out.mono ?_
        rintro e w6 ⟨rfl, hX6⟩
        have HX6 := Lib.hid hX6
        have hg6 := hX6.blk HG5.out
        have c0 : w6.cell? ⟨w4.heap.size, 0, none⟩ = some (.int .i64 8) := by rw [cell_of_row w6 w4.heap.size 0 _ _ _ hg6, ← HK.out]; rfl
        have c1 : w6.cell? ⟨w4.heap.size, 1, none⟩ = some (.int .i64 ((F : Int) + 1)) := by rw [cell_of_row w6 w4.heap.size 1 _ _ _ hg6, ← HOP.out]; rfl
        have c16 : w6.cell? ⟨w4.heap.size, 16, none⟩ = some (.slice p1 i cap1) := by rw [cell_of_row w6 w4.heap.size 16 _ _ _ hg6, ← HL.out]; rfl
        clear hX6 hg6
        go_wp2_with fail
        go_ret
        exact ⟨rfl, HX3.out.trans (HX5.out.trans HX6.out)⟩
      · refine (HPS.out _ hR).mono ?_
        rintro e w4 ⟨hX4, ⟨t', g, hRe, -, -⟩ | ⟨c, p, hRe, rfl⟩⟩
        · cases hRe
        injection hRe with hRe
        injection hRe with hc hp
        subst hc hp
        obtain ⟨W5, hW5, hE5, hG5, hL5, hS5⟩ := new_blk w4 zF.cells 33
        have HW5 := Lib.hid hW5
        have HX5 := Lib.hid (hX4.trans hE5)
        have HFT := Lib.hid (fits_any ((F : Int) + 1) (i : Int) W5 (HE.out.ext (HX3.out.trans HX5.out)).1.1)
        rw [hfit] at HFT
        have hlen : (((callsS F i).length + 1 : Nat) : Int) = (A.size : Int) + 1 := by rw [HAL.out]; omega
        clear hX4 hW5 hE5 hG5 hL5 hS5 HPS HD hR hfit
        rw [hlen]
        unfold Fl.val
        go_upto_region 13 with (first | ((with_reducible refine wpl_guard (isStore 33) ?_ ?_); (· rfl); refine wpl_store (t := ?_) (old := ?_) (w' := ?_) rfl 33 _ _ rfl rfl rfl ?_ ?_ ?_ ?_ ?_ ?_; rotate_left 2; (· (first | (with_reducible assumption) | (simp (disch := (first | omega | (simp only [World.size_alloc, World.size_setCell, World.size_drew, size_setRow]; done) | (simp only [World.size_alloc, World.size_setCell, World.size_drew, size_setRow]; omega))) only [hq_at, hq_past, hq_drew, hq_drewN, hq_cell, hq_row, hq_same, rowOf_cells, Option.map_some, *]; rfl) | (simp (disch := (first | omega | (simp only [World.size_alloc, World.size_setCell, World.size_drew, size_setRow]; done) | (simp only [World.size_alloc, World.size_setCell, World.size_drew, size_setRow]; omega))) only [hq_at, hq_past, hq_drew, hq_drewN, hq_cell, hq_row, hq_same, rowOf_cells, Option.map_some, *]))); (· kernel_rfl); (· rfl); (· rfl); rotate_left 1; (· (first | (simp (disch := (first | omega | (simp only [World.size_alloc, World.size_setCell, World.size_drew, size_setRow]; done) | (simp only [World.size_alloc, World.size_setCell, World.size_drew, size_setRow]; omega))) only [setRow_at, setRow_past, setRow_drew]; rfl) | rfl))))
        rw [HW5.out]
        clear HW5
        go_wp2_with fail
        refine HFT.out.mono ?_
        rintro e w6 ⟨rfl, hX6⟩
        have HX6 := Lib.hid hX6
        clear hX6
        go_wp2_with fail
        go_ret
        exact ⟨rfl, HX3.out.trans (HX5.out.trans HX6.out)⟩
    have hiN' : (i : Int) < (N : Int) := by omega
    have HI : Hid (i + 1 ≤ N) := Lib.hid (by omega)
    clear hiN
    by_cases h0 : i = 0
    · subst h0
      go_wp2_with fail
      refine ⟨⟨1, HI.out, rfl, _, rfl, Lib.hid ?_, trivial⟩, by have := HI.out; simp [intOf]; omega⟩
      rw [HA.out, ← ones_next F 0, if_pos rfl, List.append_nil, ← mk_app]
      rfl
    · have h0' : (0 : Int) < (i : Int) := by omega
      have H0 := Lib.hid h0
      clear h0
      go_wp2_with fail
      refine ⟨⟨i + 1, HI.out, rfl, _, rfl, Lib.hid ?_, trivial⟩, by have := HI.out; simp [intOf]; omega⟩
      rw [HA.out, ← ones_next F i, if_neg H0.out, ← mk_app, ← mk_app]
      rfl
end Go.Proofs.YtffogjhjgmohiaaDoor.parseCalls
