/-
  ParseDeep: walk. Conditions: the arguments' own.
-/
import Derived.Test.YtffogjhjgmohiaaDoorParT
import Derived.Test.YtffogjhjgmohiaaDoorParW
namespace Go.Proofs.YtffogjhjgmohiaaDoor.parseDeep
open Go.RowKit
set_option linter.unusedVariables false
set_option linter.unusedSimpArgs false

theorem mk_app (a b : List UInt8) : mk a ++ mk b = mk (a ++ b) := by
  apply ByteArray.ext
  simp [mk]
theorem deep_len (n : Nat) (sign : Bool) : (deepS n sign).length ≤ 2 * n + 1 := by
  unfold deepS
  split <;> simp <;> omega
/-- Behind the loop. -/
def front (i : Nat) (sign : Bool) : List UInt8 := List.replicate i (if sign then 45 else 40)
def back (i : Nat) (sign : Bool) : List UInt8 := if sign then [] else List.replicate i 41
theorem front_len (i : Nat) (sign : Bool) : (front i sign).length = i := by simp [front]
theorem back_len (i : Nat) (sign : Bool) : (back i sign).length ≤ i := by unfold back; split <;> simp
theorem front_next (i : Nat) (sign : Bool) : front i sign ++ [if sign then 45 else 40] = front (i + 1) sign := by simp [front, List.replicate_succ']
theorem back_next (i : Nat) : back i false ++ [41] = back (i + 1) false := by simp [back, List.replicate_succ']
theorem deep_eq (i : Nat) (sign : Bool) : (front i sign ++ [49]) ++ back i sign = deepS i sign := by
  unfold front back deepS
  cases sign <;> simp
set_option maxRecDepth 100000 in
set_option maxHeartbeats 8000000 in
theorem walk (n : Int) (sign : Bool) (W : World) (wn : (Lit.int .i64 n).wf = true) (hE : EnvX W) :
    Calls Tryd.prog 5 #[.int .i64 n, .bool sign] W fun e w' => e = .returned (.bool true) ∧ Below W.heap.size W w' := by
  have HE := Lib.hid hE
  have HF := Lib.hid (fit6 W hE)
  obtain ⟨m, hm⟩ : ∃ m : Nat, n % 64 = (m : Int) := ⟨(n % 64).toNat, by omega⟩
  have hm64 : m < 64 := by omega
  have hand : bits .and .i64 n 63 = (m : Int) := (and_i64_6 n).trans hm
  have hw1 : wrap64 ((m : Int) + 40) = ((m + 40 : Nat) : Int) := IntWalk.wrap64_in _ ⟨by omega, by omega⟩
  clear hE hm
  go_enter Tryd.func5, Tryd.ntmps5
  go_wp2_with fail
  refine HF.out.mono ?_
  rintro e w2 ⟨rfl, hX2⟩
  have HX2 := Lib.hid hX2
  clear hX2 HF
  go_upto_if 16 with (fail)
  go_cut [0] (fun s0 wx => ∃ K : Nat, s0 = .int .i64 (K : Int) ∧ Hid (40 ≤ K ∧ K ≤ 95) ∧ w2 = wx)
  case first =>
    by_cases h95 : 95 < m + 40
    · have h95' : (95 : Int) < ((m + 40 : Nat) : Int) := by omega
      go_wp2_with fail
      go_meet
      case rel => exact ⟨95, rfl, Lib.hid (by omega), rfl⟩
    · have h95' : ((m + 40 : Nat) : Int) ≤ 95 := by omega
      have HK : Hid (40 ≤ m + 40 ∧ m + 40 ≤ 95) := Lib.hid (by omega)
      go_wp2_with fail
      go_meet
      case rel => exact ⟨m + 40, rfl, HK, rfl⟩
  case rest =>
    obtain ⟨K, rfl, HK, rfl⟩ := hcut
    have hK1 : (K : Int) ≤ 95 := by have := HK.out; omega
    clear hw1 hand hm64
    go_wp2_with fail
    go_loopw [5, 6, 18] (fun sa sb si wr => ∃ i : Nat, i ≤ K ∧ si = .int .i64 (i : Int) ∧ ∃ A B : ByteArray, sa = .string A ∧ sb = .string B ∧ Hid (A = mk (front i sign) ∧ B = mk (back i sign)) ∧ w2 = wr) (fun _ _ si _ => K - (intOf si).toNat)
    case atStart => exact ⟨0, Nat.zero_le _, rfl, _, _, rfl, rfl, Lib.hid ⟨rfl, by cases sign <;> rfl⟩, rfl⟩
    case round =>
      obtain ⟨i, hi, rfl, A, B, rfl, rfl, HAB, rfl⟩ := hrel
      have hA : (A.size : Int) ≤ 100 := by rw [HAB.out.1, mk_size, front_len]; omega
      have hB : (B.size : Int) ≤ 100 := by rw [HAB.out.2, mk_size]; have := back_len i sign; omega
      by_cases hiK : i = K
      · subst hiK
        have hS : A ++ ⟨#[49]⟩ ++ B = mk (deepS i sign) := by
          rw [HAB.out.1, HAB.out.2, ← deep_eq, ← mk_app, ← mk_app]
          rfl
        have HPS := Lib.hid (fun R hR => pars_any (deepS i sign) 0 R w2 hR (by decide) (HE.out.ext HX2.out))
        have HD := Lib.hid (deep_at HK.out.1 HK.out.2 sign)
        go_upto_region 13 with (fail)
        go_wp2_with fail
        clear hS hA hB hi
        rcases HD.out with ⟨h64, t, hR, ht⟩ | ⟨h64, hR⟩
        · refine (HPS.out _ hR).mono ?_
          rintro e w3 ⟨hX3, ⟨t', f, hRe, rfl, hRep⟩ | ⟨c, p, hRe, -⟩⟩
          case inr => cases hRe
          injection hRe with hRe
          subst hRe
          have hk64 : (i : Int) ≤ 64 := by omega
          obtain ⟨W4, hW4, hE4, hG4, hL4, hS4⟩ := new_blk w3 f.cells 33
          have HW4 := Lib.hid hW4
          have HX4 := Lib.hid (hX3.trans hE4)
          have HG4 := Lib.hid hG4
          have HSZ := Lib.hid (fun m h1 h2 => size_any m t f _ W4 h1 h2 (hRep.ext hE4))
          obtain ⟨s, l⟩ := t
          obtain ⟨p1, cap1, rfl⟩ := hRep.own
          have HT := Lib.hid ht
          have c0 : W4.cell? ⟨w3.heap.size, 0, none⟩ = some (.int .i64 s.k) := by rw [cell_of_row W4 w3.heap.size 0 _ _ _ hG4]; rfl
          clear hX3 hRep hW4 hE4 hG4 hL4 hS4 HPS HD hR h64 ht
          cases sign
          · have hk : s.k = 1 := HT.out
            rw [hk] at c0
            clear hk HSZ
            unfold Fl.val
            go_upto_region 14 with (first | ((with_reducible refine wpl_guard (isStore 33) ?_ ?_); (· rfl); refine wpl_store (t := ?_) (old := ?_) (w' := ?_) rfl 33 _ _ rfl rfl rfl ?_ ?_ ?_ ?_ ?_ ?_; rotate_left 2; (· (first | (with_reducible assumption) | (simp (disch := (first | omega | (simp only [World.size_alloc, World.size_setCell, World.size_drew, size_setRow]; done) | (simp only [World.size_alloc, World.size_setCell, World.size_drew, size_setRow]; omega))) only [hq_at, hq_past, hq_drew, hq_drewN, hq_cell, hq_row, hq_same, rowOf_cells, Option.map_some, *]; rfl) | (simp (disch := (first | omega | (simp only [World.size_alloc, World.size_setCell, World.size_drew, size_setRow]; done) | (simp only [World.size_alloc, World.size_setCell, World.size_drew, size_setRow]; omega))) only [hq_at, hq_past, hq_drew, hq_drewN, hq_cell, hq_row, hq_same, rowOf_cells, Option.map_some, *]))); (· kernel_rfl); (· rfl); (· rfl); rotate_left 1; (· (first | (simp (disch := (first | omega | (simp only [World.size_alloc, World.size_setCell, World.size_drew, size_setRow]; done) | (simp only [World.size_alloc, World.size_setCell, World.size_drew, size_setRow]; omega))) only [setRow_at, setRow_past, setRow_drew]; rfl) | rfl))))
            rw [HW4.out]
            clear HW4
            go_wp2_with fail
            go_ret
            exact ⟨rfl, HX2.out.trans HX4.out⟩
          · have hk : sizeT (.mk s l) = i + 1 := HT.out
            have hg4 := HG4.out
            have HC := Lib.hid (HSZ.out (i + 1) (by omega) (by omega))
            rw [hk] at HC
            clear HSZ c0
            unfold Fl.val at HC ⊢
            go_upto_region 14 with (first | ((with_reducible refine wpl_guard (isStore 33) ?_ ?_); (· rfl); refine wpl_store (t := ?_) (old := ?_) (w' := ?_) rfl 33 _ _ rfl rfl rfl ?_ ?_ ?_ ?_ ?_ ?_; rotate_left 2; (· (first | (with_reducible assumption) | (simp (disch := (first | omega | (simp only [World.size_alloc, World.size_setCell, World.size_drew, size_setRow]; done) | (simp only [World.size_alloc, World.size_setCell, World.size_drew, size_setRow]; omega))) only [hq_at, hq_past, hq_drew, hq_drewN, hq_cell, hq_row, hq_same, rowOf_cells, Option.map_some, *]; rfl) | (simp (disch := (first | omega | (simp only [World.size_alloc, World.size_setCell, World.size_drew, size_setRow]; done) | (simp only [World.size_alloc, World.size_setCell, World.size_drew, size_setRow]; omega))) only [hq_at, hq_past, hq_drew, hq_drewN, hq_cell, hq_row, hq_same, rowOf_cells, Option.map_some, *]))); (· kernel_rfl); (· rfl); (· rfl); rotate_left 1; (· (first | (simp (disch := (first | omega | (simp only [World.size_alloc, World.size_setCell, World.size_drew, size_setRow]; done) | (simp only [World.size_alloc, World.size_setCell, World.size_drew, size_setRow]; omega))) only [setRow_at, setRow_past, setRow_drew]; rfl) | rfl))))
            rw [HW4.out]
            clear HW4
            go_wp2_with (first | ((with_reducible refine wpl_guard (isLoad 33) ?_ ?_); (· rfl); refine wpl_load_want (t := ?_) (cs := ?_) (fr := ?_) (by rfl) 33 _ rfl rfl ?_ Tryd.underlying33 rfl ?_ ?_; rotate_left 3; (· (first | (with_reducible assumption) | (simp (disch := (first | omega | (simp only [World.size_alloc, World.size_setCell, World.size_drew, size_setRow]; done) | (simp only [World.size_alloc, World.size_setCell, World.size_drew, size_setRow]; omega))) only [hq_at, hq_past, hq_drew, hq_drewN, hq_cell, hq_row, hq_same, rowOf_cells, Option.map_some, *]; rfl) | (simp (disch := (first | omega | (simp only [World.size_alloc, World.size_setCell, World.size_drew, size_setRow]; done) | (simp only [World.size_alloc, World.size_setCell, World.size_drew, size_setRow]; omega))) only [hq_at, hq_past, hq_drew, hq_drewN, hq_cell, hq_row, hq_same, rowOf_cells, Option.map_some, *]))); (· kernel_rfl); (try dsimp only [Act.put, List.setIfInBounds_toArray, List.set_cons_zero, List.set_cons_succ])))
            refine HC.out.mono ?_
            rintro e w5 ⟨rfl, hX5⟩
            have HX5 := Lib.hid hX5
            clear hX5 hg4
            go_wp2_with fail
            go_ret
            exact ⟨rfl, HX2.out.trans (HX4.out.trans HX5.out)⟩
        · refine (HPS.out _ hR).mono ?_
          rintro e w3 ⟨hX3, ⟨t', f, hRe, -, -⟩ | ⟨c, p, hRe, rfl⟩⟩
          · cases hRe
          injection hRe with hRe
          injection hRe with hc hp
          subst hc hp
          have hk64 : (64 : Int) < (i : Int) := by omega
          obtain ⟨W4, hW4, hE4, hG4, hL4, hS4⟩ := new_blk w3 zF.cells 33
          have HW4 := Lib.hid hW4
          have HX4 := Lib.hid (hX3.trans hE4)
          clear hX3 hW4 hE4 hG4 hL4 hS4 HPS HD hR h64
          unfold Fl.val
          go_upto_region 14 with (first | ((with_reducible refine wpl_guard (isStore 33) ?_ ?_); (· rfl); refine wpl_store (t := ?_) (old := ?_) (w' := ?_) rfl 33 _ _ rfl rfl rfl ?_ ?_ ?_ ?_ ?_ ?_; rotate_left 2; (· (first | (with_reducible assumption) | (simp (disch := (first | omega | (simp only [World.size_alloc, World.size_setCell, World.size_drew, size_setRow]; done) | (simp only [World.size_alloc, World.size_setCell, World.size_drew, size_setRow]; omega))) only [hq_at, hq_past, hq_drew, hq_drewN, hq_cell, hq_row, hq_same, rowOf_cells, Option.map_some, *]; rfl) | (simp (disch := (first | omega | (simp only [World.size_alloc, World.size_setCell, World.size_drew, size_setRow]; done) | (simp only [World.size_alloc, World.size_setCell, World.size_drew, size_setRow]; omega))) only [hq_at, hq_past, hq_drew, hq_drewN, hq_cell, hq_row, hq_same, rowOf_cells, Option.map_some, *]))); (· kernel_rfl); (· rfl); (· rfl); rotate_left 1; (· (first | (simp (disch := (first | omega | (simp only [World.size_alloc, World.size_setCell, World.size_drew, size_setRow]; done) | (simp only [World.size_alloc, World.size_setCell, World.size_drew, size_setRow]; omega))) only [setRow_at, setRow_past, setRow_drew]; rfl) | rfl))))
          rw [HW4.out]
          clear HW4
          go_wp2_with fail
          go_ret
          exact ⟨rfl, HX2.out.trans HX4.out⟩
      have hiK' : (i : Int) < (K : Int) := by omega
      have HI : Hid (i + 1 ≤ K) := Lib.hid (by omega)
      clear hiK
      cases sign
      · go_wp2_with fail
        refine ⟨⟨i + 1, HI.out, rfl, _, _, rfl, rfl, Lib.hid ⟨?_, ?_⟩, trivial⟩, by have := HI.out; simp [intOf]; omega⟩
        · rw [HAB.out.1, ← front_next]; exact mk_app _ _
        · rw [HAB.out.2, ← back_next]; exact mk_app _ _
      · go_wp2_with fail
        refine ⟨⟨i + 1, HI.out, rfl, _, _, rfl, rfl, Lib.hid ⟨?_, HAB.out.2⟩, trivial⟩, by have := HI.out; simp [intOf]; omega⟩
        rw [HAB.out.1, ← front_next]; exact mk_app _ _
end Go.Proofs.YtffogjhjgmohiaaDoor.parseDeep
