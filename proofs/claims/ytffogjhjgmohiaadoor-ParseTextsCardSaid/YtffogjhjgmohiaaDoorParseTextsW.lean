/-
  ParseTexts: walk. Conditions: the arguments' own.
-/
import Derived.Test.YtffogjhjgmohiaaDoorParT
namespace Go.Proofs.YtffogjhjgmohiaaDoor.parseTexts
open Go.RowKit
set_option linter.unusedVariables false
set_option linter.unusedSimpArgs false

theorem mk_app (a b : List UInt8) : mk a ++ mk b = mk (a ++ b) := by
  apply ByteArray.ext
  simp [mk]
theorem esc_snoc : ∀ (l : List UInt8) (c : UInt8), escL (l ++ [c]) = escL l ++ (if c.toNat = 34 then [34, 34] else [c])
  | [], c => by
    by_cases h : c.toNat = 34 <;> simp [escL, h]
  | d :: l, c => by
    rw [List.cons_append, escL, escL, esc_snoc l c]
    split <;> simp
theorem esc_len : ∀ l : List UInt8, (escL l).length ≤ 2 * l.length
  | [] => Nat.le_refl _
  | d :: l => by
    have := esc_len l
    rw [escL]
    split <;> simp <;> omega
theorem esc_step {l : List UInt8} {i : Nat} {c : UInt8} (h : l[i]? = some c) : (34 :: escL (l.take i)) ++ (if c.toNat = 34 then [34, 34] else [c]) = 34 :: escL (l.take (i + 1)) := by
  rw [List.take_add_one, h]
  show _ = 34 :: escL (l.take i ++ [c])
  rw [esc_snoc]
  rfl
def tailS : List UInt8 := [34, 38, 84, 82, 85, 69, 38, 66, 76, 65, 78, 75, 40, 41, 38, 35, 78, 47, 65]
def treeX (S : ByteArray) : Tr := .mk (parS 7 5) [.mk (litS 2 0 S) [], .mk (litS 3 1 ⟨#[]⟩) []]
def treeS (S : ByteArray) : Tr := .mk (parS 7 5) [.mk (parS 7 5) [treeX S, .mk (litS 0 0 ⟨#[]⟩) []], .mk (litS 4 6 ⟨#[]⟩) []]
theorem text_good (S : ByteArray) (h : S.size ≤ 64) : GT (treeS S) :=
  .bin 5 _ _ (by omega) (.bin 5 _ _ (by omega) (.bin 5 _ _ (by omega) (.lit 2 0 S (by unfold vr; exact decide_eq_true (.inr (.inr (.inl ⟨rfl, rfl, h⟩)))) (by omega) (by omega) h) (.lit 3 1 ⟨#[]⟩ (by rfl) (by omega) (by omega) (by decide))) (.lit 0 0 ⟨#[]⟩ (by rfl) (by omega) (by omega) (by decide))) (.lit 4 6 ⟨#[]⟩ (by rfl) (by omega) (by omega) (by decide))
theorem text_text (S : ByteArray) : shT 0 0 (treeS S) = (34 :: escL S.data.toList) ++ tailS := by
  have hl : lvlOf 5 = 1 := by decide
  have ho : opL 5 = [38] := by decide
  unfold shT treeS treeX
  simp only [pcs_bin, pcs_lit, hl, ho]
  simp [brk, src, litP, textP, wordP, signP, errP, tailS, errLit]
theorem text_dep (S : ByteArray) : depT 0 (treeS S) = 0 := by
  have hl : lvlOf 5 = 1 := by decide
  have h0 : ∀ v k n s, depT v (.mk (litS k n s) []) = 0 := fun v k n s => dep_leaf _ _ _ (by decide : (1 : Int) ≤ 4)
  unfold treeS treeX
  simp only [dep_bin, hl, h0]
  decide
theorem text_size (S : ByteArray) : sizeT (treeS S) = 7 := by simp [treeS, treeX, sizeT, sizeL]
theorem text_read (S : ByteArray) (h : S.size ≤ 64) : parseF ((34 :: escL S.data.toList) ++ tailS) 0 = some (.ok (treeS S)) ∨ (200 < ((34 :: escL S.data.toList) ++ tailS).length ∧ parseF ((34 :: escL S.data.toList) ++ tailS) 0 = some (.error (4, 0))) := by
  rw [← text_text]
  rcases read_back (sh := 0) (by omega) (.inl rfl) (text_good S h) with h1 | h1 | ⟨h1, -⟩
  · exact .inl h1
  · exact .inr h1
  · rw [text_dep] at h1; omega
set_option maxRecDepth 100000 in
set_option maxHeartbeats 8000000 in
theorem walk (S : ByteArray) (code : Int) (W : World) (wS : S.size ≤ 9223372036854775807) (wn : (Lit.int .i64 code).wf = true) (hE : EnvX W) :
    Calls Tryd.prog 7 #[.string S, .int .i64 code] W fun e w' => e = .returned (.bool true) ∧ Below W.heap.size W w' := by
  have HE := Lib.hid hE
  have HF := Lib.hid (fit6 W hE)
  have HLEN : Hid (S.data.toList.length = S.size) := Lib.hid (by simp)
  clear hE
  go_enter Tryd.func7, Tryd.ntmps7
  go_wp2_with fail
  refine HF.out.mono ?_
  rintro e w2 ⟨rfl, hX2⟩
  have HX2 := Lib.hid hX2
  clear hX2 HF
  by_cases hz : 64 < S.size
  · have hz' : (64 : Int) < (S.size : Int) := by omega
    go_wp2_with fail
    go_ret
    exact ⟨rfl, HX2.out⟩
  have hz' : (S.size : Int) ≤ 64 := by omega
  have HZ : Hid (S.size ≤ 64) := Lib.hid (by omega)
  clear hz
  go_wp2_with fail
  go_loopw [5, 18] (fun sa si wr => ∃ i : Nat, i ≤ S.size ∧ si = .int .i64 (i : Int) ∧ ∃ A : ByteArray, sa = .string A ∧ Hid (A = mk (34 :: escL (S.data.toList.take i))) ∧ w2 = wr) (fun _ si _ => S.size - (intOf si).toNat)
  case atStart => exact ⟨0, Nat.zero_le _, rfl, _, rfl, Lib.hid rfl, rfl⟩
  case round =>
    obtain ⟨i, hi, rfl, A, rfl, HA, rfl⟩ := hrel
    have hA : (A.size : Int) ≤ 200 := by
      rw [HA.out, mk_size]
      have h1 := esc_len (S.data.toList.take i)
      have h2 : (S.data.toList.take i).length ≤ 64 := by rw [List.length_take]; have := HZ.out; omega
      simp only [List.length_cons]
      omega
    by_cases hiN : i = S.size
    · subst hiN
      have hA2 : A = mk (34 :: escL S.data.toList) := by rw [HA.out, List.take_of_length_le (by rw [HLEN.out]; exact Nat.le_refl _)]
      have HAL : Hid (A.size = (34 :: escL S.data.toList).length) := Lib.hid (by rw [hA2, mk_size])
      have hS : A ++ ⟨#[34, 38, 84, 82, 85, 69, 38, 66, 76, 65, 78, 75, 40, 41, 38, 35, 78, 47, 65]⟩ = mk ((34 :: escL S.data.toList) ++ tailS) := by rw [hA2]; exact mk_app _ _
      have HPS := Lib.hid (fun R hR => pars_any ((34 :: escL S.data.toList) ++ tailS) 0 R w2 hR (by decide) (HE.out.ext HX2.out))
      have HD := Lib.hid (text_read S HZ.out)
      clear hi hA2
      go_upto_region 13 with (fail)
      go_wp2_with fail
      clear hS
      rcases HD.out with hR | ⟨hlong, hR⟩
      · refine (HPS.out _ hR).mono ?_
        rintro e w4 ⟨hX4, ⟨t', g, hRe, rfl, hRep⟩ | ⟨c, p, hRe, -⟩⟩
        case inr => cases hRe
        injection hRe with hRe
        subst hRe
        have hRep0 := hRep
        obtain ⟨g0, o0, cap0, f1, fe, rfl, -, hN1, hNe, hR1, hRe⟩ := hRep.open2
        obtain ⟨g1, o1, cap1, fx, fb, rfl, -, hNx, hNb, hRx, hRb⟩ := hR1.open2
        obtain ⟨g2, o2, cap2, ft, fu, rfl, -, hNt, hNu, hRt, hRu⟩ := hRx.open2
        obtain ⟨pe, ce, rfl⟩ := hRe.own
        obtain ⟨pb, cb, rfl⟩ := hRb.own
        obtain ⟨pt, ct, rfl⟩ := hRt.own
        obtain ⟨pu, cu, rfl⟩ := hRu.own
        obtain ⟨W5, hW5, hE5, hG5, hL5, hS5⟩ := new_blk w4 ((parS 7 5).fl (some ⟨g0, o0, none⟩) 2 cap0).cells 33
        have HW5 := Lib.hid hW5
        have HX5 := Lib.hid (hX4.trans hE5)
        have hg5 := hG5
        have HG5 := Lib.hid hG5
        have HSZ := Lib.hid (size_any 7 (treeS S) _ _ W5 (Nat.le_of_eq (text_size S)) (by rw [text_size]; omega) (hRep0.ext hE5))
        rw [text_size] at HSZ
        have HN1 := Lib.hid (hN1.ext hE5)
        have HNE := Lib.hid (hNe.ext hE5)
        have HNX := Lib.hid (hNx.ext hE5)
        have HNB := Lib.hid (hNb.ext hE5)
        have HNT := Lib.hid (hNt.ext hE5)
        have HNU := Lib.hid (hNu.ext hE5)
        clear hX4 hRep hRep0 hN1 hNe hNx hNb hNt hNu hR1 hRe hRx hRb hRt hRu hW5 hE5 hG5 hL5 hS5 HPS HD hR
        unfold Fl.val at HSZ ⊢
        go_upto_region 14 with (first | ((with_reducible refine wpl_guard (isStore 33) ?_ ?_); (· rfl); refine wpl_store (t := ?_) (old := ?_) (w' := ?_) rfl 33 _ _ rfl rfl rfl ?_ ?_ ?_ ?_ ?_ ?_; rotate_left 2; (· (first | (with_reducible assumption) | (simp (disch := (first | omega | (simp only [World.size_alloc, World.size_setCell, World.size_drew, size_setRow]; done) | (simp only [World.size_alloc, World.size_setCell, World.size_drew, size_setRow]; omega))) only [hq_at, hq_past, hq_drew, hq_drewN, hq_cell, hq_row, hq_same, rowOf_cells, Option.map_some, *]; rfl) | (simp (disch := (first | omega | (simp only [World.size_alloc, World.size_setCell, World.size_drew, size_setRow]; done) | (simp only [World.size_alloc, World.size_setCell, World.size_drew, size_setRow]; omega))) only [hq_at, hq_past, hq_drew, hq_drewN, hq_cell, hq_row, hq_same, rowOf_cells, Option.map_some, *]))); (· kernel_rfl); (· rfl); (· rfl); rotate_left 1; (· (first | (simp (disch := (first | omega | (simp only [World.size_alloc, World.size_setCell, World.size_drew, size_setRow]; done) | (simp only [World.size_alloc, World.size_setCell, World.size_drew, size_setRow]; omega))) only [setRow_at, setRow_past, setRow_drew]; rfl) | rfl))))
        rw [HW5.out]
        clear HW5
        go_wp2_with (first | ((with_reducible refine wpl_guard (isLoad 33) ?_ ?_); (· rfl); refine wpl_load_want (t := ?_) (cs := ?_) (fr := ?_) (by rfl) 33 _ rfl rfl ?_ Tryd.underlying33 rfl ?_ ?_; rotate_left 3; (· (first | (with_reducible assumption) | (simp (disch := (first | omega | (simp only [World.size_alloc, World.size_setCell, World.size_drew, size_setRow]; done) | (simp only [World.size_alloc, World.size_setCell, World.size_drew, size_setRow]; omega))) only [hq_at, hq_past, hq_drew, hq_drewN, hq_cell, hq_row, hq_same, rowOf_cells, Option.map_some, *]; rfl) | (simp (disch := (first | omega | (simp only [World.size_alloc, World.size_setCell, World.size_drew, size_setRow]; done) | (simp only [World.size_alloc, World.size_setCell, World.size_drew, size_setRow]; omega))) only [hq_at, hq_past, hq_drew, hq_drewN, hq_cell, hq_row, hq_same, rowOf_cells, Option.map_some, *]))); (· kernel_rfl); (try dsimp only [Act.put, List.setIfInBounds_toArray, List.set_cons_zero, List.set_cons_succ])))
        refine HSZ.out.mono ?_
        rintro e w6 ⟨rfl, hX6⟩
        have HX6 := Lib.hid hX6
        have hg6 := hX6.blk HG5.out
        have c16 : w6.cell? ⟨w4.heap.size, 16, none⟩ = some (.slice (some ⟨g0, o0, none⟩) 2 cap0) := by rw [cell_of_row w6 w4.heap.size 16 _ _ _ hg6]; rfl
        have n16 : w6.cell? ⟨g0, o0 + 16, none⟩ = some (.slice (some ⟨g1, o1, none⟩) 2 cap1) := (HN1.out.ext hX6) 16 _ rfl
        have hnx := HNX.out.ext hX6
        obtain ⟨W7, hW7, hE7, hG7, hL7, hS7⟩ := new_blk w6 ((parS 7 5).fl (some ⟨g2, o2, none⟩) 2 cap2).cells 33
        have HW7 := Lib.hid hW7
        have HE7 := Lib.hid hE7
        have HG7 := Lib.hid hG7
        have HG67 := Lib.hid (hE7.blk hg6)
        clear hX6 hg5 hg6 hW7 hE7 hG7 hL7 hS7
        go_upto_region 19 with (first | ((with_reducible refine wpl_guard (isLoad 33) ?_ ?_); (· rfl); refine wpl_load_node rfl 33 _ rfl rfl hnx Tryd.underlying33 rfl ?_ ?_; (· kernel_rfl); (try dsimp only [Act.put, List.setIfInBounds_toArray, List.set_cons_zero, List.set_cons_succ])) | ((with_reducible refine wpl_guard (isStore 33) ?_ ?_); (· rfl); refine wpl_store (t := ?_) (old := ?_) (w' := ?_) rfl 33 _ _ rfl rfl rfl ?_ ?_ ?_ ?_ ?_ ?_; rotate_left 2; (· (first | (with_reducible assumption) | (simp (disch := (first | omega | (simp only [World.size_alloc, World.size_setCell, World.size_drew, size_setRow]; done) | (simp only [World.size_alloc, World.size_setCell, World.size_drew, size_setRow]; omega))) only [hq_at, hq_past, hq_drew, hq_drewN, hq_cell, hq_row, hq_same, rowOf_cells, Option.map_some, *]; rfl) | (simp (disch := (first | omega | (simp only [World.size_alloc, World.size_setCell, World.size_drew, size_setRow]; done) | (simp only [World.size_alloc, World.size_setCell, World.size_drew, size_setRow]; omega))) only [hq_at, hq_past, hq_drew, hq_drewN, hq_cell, hq_row, hq_same, rowOf_cells, Option.map_some, *]))); (· kernel_rfl); (· rfl); (· rfl); rotate_left 1; (· (first | (simp (disch := (first | omega | (simp only [World.size_alloc, World.size_setCell, World.size_drew, size_setRow]; done) | (simp only [World.size_alloc, World.size_setCell, World.size_drew, size_setRow]; omega))) only [setRow_at, setRow_past, setRow_drew]; rfl) | rfl))))
        rw [HW7.out]
        clear HW7 c16 n16 hnx
        have c16 : W7.cell? ⟨w4.heap.size, 16, none⟩ = some (.slice (some ⟨g0, o0, none⟩) 2 cap0) := by rw [cell_of_row W7 w4.heap.size 16 _ _ _ HG67.out]; rfl
        have x16 : W7.cell? ⟨w6.heap.size, 16, none⟩ = some (.slice (some ⟨g2, o2, none⟩) 2 cap2) := by rw [cell_of_row W7 w6.heap.size 16 _ _ _ HG7.out]; rfl
        have HX67 := Lib.hid (HX6.out.trans HE7.out)
        have n16 : W7.cell? ⟨g0, o0 + 16, none⟩ = some (.slice (some ⟨g1, o1, none⟩) 2 cap1) := (HN1.out.ext HX67.out) 16 _ rfl
        have ne : W7.cell? ⟨g0, o0 + 17 + 2, none⟩ = some (.int .i64 4) := (HNE.out.ext HX67.out).vk
        have nb : W7.cell? ⟨g1, o1 + 17 + 2, none⟩ = some (.int .i64 0) := (HNB.out.ext HX67.out).vk
        have nt : W7.cell? ⟨g2, o2 + 2, none⟩ = some (.int .i64 2) := (HNT.out.ext HX67.out).vk
        have ns : W7.cell? ⟨g2, o2 + 4, none⟩ = some (.string S) := (HNT.out.ext HX67.out) 4 _ rfl
        have ns' : W7.cell? ⟨g2, o2 + 2 + 2, none⟩ = some (.string S) := ns
        have nu : W7.cell? ⟨g2, o2 + 17 + 2, none⟩ = some (.int .i64 3) := (HNU.out.ext HX67.out).vk
        go_wp2_with fail
        go_ret
        exact ⟨rfl, HX2.out.trans (HX5.out.trans HX67.out)⟩
      · refine (HPS.out _ hR).mono ?_
        rintro e w4 ⟨hX4, ⟨t', g, hRe, -, -⟩ | ⟨c, p, hRe, rfl⟩⟩
        · cases hRe
        injection hRe with hRe
        injection hRe with hc hp
        subst hc hp
        have hlong' : (180 : Int) < (A.size : Int) := by
          rw [HAL.out]
          rw [List.length_append, show tailS.length = 19 from rfl] at hlong
          omega
        obtain ⟨W5, hW5, hE5, hG5, hL5, hS5⟩ := new_blk w4 zF.cells 33
        have HW5 := Lib.hid hW5
        have HX5 := Lib.hid (hX4.trans hE5)
        clear hX4 hW5 hE5 hG5 hL5 hS5 HPS HD hR hlong
        unfold Fl.val
        go_upto_region 14 with (first | ((with_reducible refine wpl_guard (isStore 33) ?_ ?_); (· rfl); refine wpl_store (t := ?_) (old := ?_) (w' := ?_) rfl 33 _ _ rfl rfl rfl ?_ ?_ ?_ ?_ ?_ ?_; rotate_left 2; (· (first | (with_reducible assumption) | (simp (disch := (first | omega | (simp only [World.size_alloc, World.size_setCell, World.size_drew, size_setRow]; done) | (simp only [World.size_alloc, World.size_setCell, World.size_drew, size_setRow]; omega))) only [hq_at, hq_past, hq_drew, hq_drewN, hq_cell, hq_row, hq_same, rowOf_cells, Option.map_some, *]; rfl) | (simp (disch := (first | omega | (simp only [World.size_alloc, World.size_setCell, World.size_drew, size_setRow]; done) | (simp only [World.size_alloc, World.size_setCell, World.size_drew, size_setRow]; omega))) only [hq_at, hq_past, hq_drew, hq_drewN, hq_cell, hq_row, hq_same, rowOf_cells, Option.map_some, *]))); (· kernel_rfl); (· rfl); (· rfl); rotate_left 1; (· (first | (simp (disch := (first | omega | (simp only [World.size_alloc, World.size_setCell, World.size_drew, size_setRow]; done) | (simp only [World.size_alloc, World.size_setCell, World.size_drew, size_setRow]; omega))) only [setRow_at, setRow_past, setRow_drew]; rfl) | rfl))))
        rw [HW5.out]
        clear HW5
        go_wp2_with fail
        go_ret
        exact ⟨rfl, HX2.out.trans HX5.out⟩
    have hlt : i < S.size := by omega
    have hiN' : (i : Int) < (S.size : Int) := by omega
    have HI : Hid (i + 1 ≤ S.size) := Lib.hid (by omega)
    obtain ⟨c, hcs⟩ : ∃ c, S.data.toList[i]? = some c := ⟨_, List.getElem?_eq_getElem (by rw [HLEN.out]; exact hlt)⟩
    have hc : S[i]'hlt = c := Option.some.inj ((List.getElem?_eq_getElem (by rw [HLEN.out]; exact hlt)).symm.trans hcs)
    have HST := Lib.hid (esc_step hcs)
    have hx : ∀ w, (Instr.slice 9 (.string S) (some (.int .i64 (i : Int))) (some (.int .i64 ((i : Int) + 1))) none).run Tryd.prog w = .ok (.string (mk [c])) w := fun w => sl_one hcs w
    have hmc : (mk [c]).size = 1 := rfl
    have hi64 : (i : Int) ≤ 64 := by omega
    clear hiN hcs
    by_cases h34 : c.toNat = 34
    · have q34 : ((c.toNat : Int) == 34) = true := by rw [h34]; rfl
      rw [if_pos h34] at HST
      have HC34 : Hid (c = 34) := Lib.hid (UInt8.toNat.inj h34)
      clear h34
      go_wp2_with fail
      refine ⟨⟨i + 1, HI.out, rfl, _, rfl, Lib.hid ?_, trivial⟩, by have := HI.out; simp [intOf]; omega⟩
      rw [HA.out, ← HST.out, HC34.out, show ([34, 34] : List UInt8) = [34] ++ [34] from rfl, ← List.append_assoc, ← mk_app, ← mk_app]
      rfl
    · have q34 : ((c.toNat : Int) == 34) = false := by rw [beq_eq_false_iff_ne]; omega
      rw [if_neg h34] at HST
      clear h34
      go_wp2_with fail
      refine ⟨⟨i + 1, HI.out, rfl, _, rfl, Lib.hid ?_, trivial⟩, by have := HI.out; simp [intOf]; omega⟩
      rw [HA.out, ← HST.out, ← mk_app]
end Go.Proofs.YtffogjhjgmohiaaDoor.parseTexts
