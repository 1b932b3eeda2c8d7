/-
  ParseSheets: walk. Conditions: the arguments' own.
-/
import Derived.Test.YtffogjhjgmohiaaDoorParT
import Derived.Laws.IdiomStrings
namespace Go.Proofs.YtffogjhjgmohiaaDoor.parseSheets
open Go.RowKit
set_option linter.unusedVariables false
set_option linter.unusedSimpArgs false

theorem mk_app (a b : List UInt8) : mk a ++ mk b = mk (a ++ b) := by
  apply ByteArray.ext
  simp [mk]
/-! ### The three texts, read -/
def rfK (s c q : Nat) : Rf := ⟨(s : Int), (c : Int), (q : Int), false, false⟩
theorem ins_k {s c q : Nat} (hs : s < 3) (hc : c < 26) (hq : q < 99) : insV (rfK s c q).s (rfK s c q).c (rfK s c q).r = true := by
  show insV (s : Int) (c : Int) (q : Int) = true
  simp only [insV, Bool.and_eq_true, decide_eq_true_eq]
  omega
theorem short_body (c q : Nat) (hq : q < 99) : (bodyL false false c q).length ≤ 5 := body_len false false hq
theorem read1 {k c q : Nat} (hk : k < 3) (hc : c < 26) (hq : q < 99) : parseF (bodyL false false c q) k = some (.ok (.mk (oneS (rfK k c q)) [])) := by
  have e : shT (k : Int) 0 (.mk (oneS (rfK k c q)) []) = bodyL false false c q := by
    unfold shT
    rw [pcs_one]
    simp [src, wordP, refL, rfK]
  have h := read_back (sh := k) hk (.inl rfl) (GT.one (rfK k c q) (ins_k hk hc hq))
  rw [e] at h
  rcases h with h | ⟨h, -⟩ | ⟨h, -⟩
  · exact h
  · have := short_body c q hq; omega
  · rw [dep_leaf _ _ _ (by decide : (2 : Int) ≤ 4)] at h; omega
theorem read2 {k o c q : Nat} (hk : k < 3) (ho : o < 3) (hc : c < 26) (hq : q < 99) : parseF (fullL o false false c q ++ 58 :: bodyL false false c q) k = some (.ok (.mk (areaS (rfK o c q) (rfK o c q)) [])) := by
  have e : shT (-1) 0 (.mk (areaS (rfK o c q) (rfK o c q)) []) = fullL o false false c q ++ 58 :: bodyL false false c q := by
    unfold shT
    rw [pcs_area]
    have : ¬ ((o : Int) = -1) := by omega
    simp [src, wordP, signP, refL, rfK, this]
  have h := read_back (sh := k) hk (.inr (by decide : (-1 : Int) < 0)) (GT.area (rfK o c q) (rfK o c q) (ins_k ho hc hq) (ins_k ho hc hq) rfl)
  rw [e] at h
  rcases h with h | ⟨h, -⟩ | ⟨h, -⟩
  · exact h
  · have := short_body c q hq
    simp [fullL] at h
    omega
  · rw [dep_leaf _ _ _ (by decide : (3 : Int) ≤ 4)] at h; omega
theorem err_up {E sh d : Nat} {ts : List Tok} {e : Nat × Nat} (hp : ∀ n, primF E sh n d ts = none ∨ primF E sh n d ts = some (.error e)) (hi : isS [45] ts = none) : ∀ k lvl n, lvl + k = 4 → exprF E sh n lvl d ts = none ∨ exprF E sh n lvl d ts = some (.error e)
  | 0, lvl, n, h => by
    cases n with
    | zero => exact .inl (by rw [exprF])
    | succ n =>
      rw [exprF, if_pos (by simp; omega)]
      cases n with
      | zero => exact .inl (by rw [unaryF])
      | succ n =>
        rw [unaryF, hi]
        simp only
        rcases hp n with h | h <;> rw [h]
        · exact .inl rfl
        · exact .inr rfl
  | k + 1, lvl, n, h => by
    cases n with
    | zero => exact .inl (by rw [exprF])
    | succ n =>
      rw [exprF, if_neg (by simp; omega)]
      rcases err_up hp hi k (lvl + 1) n (by omega) with h | h <;> rw [h]
      · exact .inl rfl
      · exact .inr rfl
theorem read3 {k c q : Nat} (hk : k < 3) (hc : c < 26) (hq : q < 99) : ∃ p, parseF (fullL 0 false false c q ++ 58 :: fullL 1 false false c q) k = some (.error (6, p)) := by
  have hw0 := full_word false false (show 0 < 3 by omega) hc hq
  have hw1 := full_word false false (show 1 < 3 by omega) hc hq
  have hlx : Lx [wordP (fullL 0 false false c q), signP [58], wordP (fullL 1 false false c q)] [] := by
    refine ⟨hw0.pc ?_, signP_ok (by decide) (fun e => by rcases e with e | e <;> cases e), hw1.pc (fun c l e => (by cases e)), trivial⟩
    rw [src_cons, List.append_assoc]
    exact fol_sign (by decide)
  have hsrc : src [wordP (fullL 0 false false c q), signP [58], wordP (fullL 1 false false c q)] = fullL 0 false false c q ++ 58 :: fullL 1 false false c q := by simp [src, wordP, signP]
  obtain ⟨ts, hl, hm⟩ := lex_src _ ((fullL 0 false false c q ++ 58 :: fullL 1 false false c q).length + 1) 0 hlx (by rw [hsrc]; omega)
  rw [hsrc] at hl
  have hlex : lexAll (fullL 0 false false c q ++ 58 :: fullL 1 false false c q) = .ok ts := hl
  obtain ⟨t1, r1, rfl, k1, s1, hr1⟩ := mt_cons hm
  obtain ⟨t2, r2, rfl, k2, s2, hr2⟩ := mt_cons hr1
  obtain ⟨t3, r3, rfl, k3, s3, hr3⟩ := mt_cons hr2
  obtain rfl := mt_nil hr3
  have k1 : t1.k = 3 := k1
  have k2 : t2.k = 4 := k2
  have k3 : t3.k = 3 := k3
  have s1 : t1.s = fullL 0 false false c q := s1
  have s2 : t2.s = [58] := s2
  have s3 : t3.s = fullL 1 false false c q := s3
  obtain ⟨E, hE⟩ : ∃ E, (fullL 0 false false c q ++ 58 :: fullL 1 false false c q).length = E := ⟨_, rfl⟩
  have hE200 : ¬ 200 < E := by
    have := short_body c q hq
    rw [← hE]
    simp [fullL]
    omega
  refine ⟨t3.p, ?_⟩
  unfold parseF
  rw [hE, if_neg hE200, hlex]
  simp only
  have hends := (ends E k (12 * [t1, t2, t3].length + 12)).expr 0 0 [t1, t2, t3] (by omega) (by omega)
  have hatom : atomP E k t1 [t2, t3] = .error (6, t3.p) := by
    unfold atomP
    rw [s1, refF_full false false k (by omega) hc hq]
    simp only [areaP, isS_yes [t3] k2 s2]
    rw [if_neg (by simp [k3]), s3, refF_full false false _ (by omega) hc hq]
    rfl
  have hp : ∀ n, primF E k n 0 [t1, t2, t3] = none ∨ primF E k n 0 [t1, t2, t3] = some (.error (6, t3.p)) := by
    intro n
    cases n with
    | zero => exact .inl (by rw [primF])
    | succ n =>
      rw [prim_word k1]
      cases n with
      | zero => exact .inl (by rw [wordF])
      | succ n => exact .inr (by rw [wordF, isS_s [t3] (show t2.s ≠ [40] by rw [s2]; decide), hatom])
  rcases err_up hp (isS_k _ (by omega)) 4 0 _ rfl with h | h
  · exact absurd h hends
  · rw [h]
/-! ### Digits -/
theorem dig_two : ∀ q, q < 99 → Num.dig (q + 1) = D2 (q + 1) := by decide +kernel
theorem eqlC (s c q : Int) (w : World) : Sem.run Tryd.prog (binOp .eql 28 (.agg #[.int .i64 s, .int .i64 c, .int .i64 q]) (.agg #[.int .i64 s, .int .i64 c, .int .i64 q])) w = .ok (.bool true) w := by simp [go_sem]
/-- A byte, as a text. -/
theorem byte_text (v : Int) (b : UInt8) (hb : (b.toNat : Int) = v) (w : World) : Sem.run Tryd.prog (convert 38 9 (.slice (some ⟨w.heap.size, 0, none⟩) 1 1)) (w.alloc (.cells #[.int .u8 v] 5)) = .ok (.string (mk [b])) (w.alloc (.cells #[.int .u8 v] 5)) := by
  refine run_convert_bytes_back (P := Tryd.prog) _ 38 9 5 ⟨w.heap.size, 0, none⟩ 1 [b] Tryd.underlying38 Tryd.underlying5 Tryd.underlying9 (fun j hj => ?_)
  rw [show (⟨w.heap.size, 0, none⟩ : Addr).add j = ⟨w.heap.size, j, none⟩ by simp [Addr.add] <;> omega, cell_of_row _ w.heap.size j _ _ _ (hq_at _ _ rfl)]
  obtain rfl : j = 0 := by simpa using hj
  rw [← hb]
  rfl
set_option maxRecDepth 100000 in
set_option maxHeartbeats 8000000 in
theorem walk (sheet other : Int) (x : Rf) (W : World) (ws : (Lit.int .i64 sheet).wf = true) (wo : (Lit.int .i64 other).wf = true) (wx : True) (hE : EnvX W) :
    Calls Tryd.prog 4 #[.int .i64 sheet, .int .i64 other, x.val] W fun e w' => e = .returned (.bool true) ∧ Below W.heap.size W w' := by
  obtain ⟨rs, rc, rr, rx, ry⟩ := x
  obtain ⟨W1, hW1, hE1, hG1, hL1, hS1⟩ := new_blk W #[.int .i64 rs, .int .i64 rc, .int .i64 rr, .bool rx, .bool ry] 30
  have HW1 := Lib.hid hW1
  have HX1 := Lib.hid hE1
  have HG1 := Lib.hid hG1
  have HE := Lib.hid hE
  have HF := Lib.hid (fit6 W1 (hE.ext hE1))
  clear hE hW1 hE1 hG1 hL1 hS1
  obtain ⟨K, hK, hK3⟩ := cyc 3 sheet (by omega) (by omega)
  obtain ⟨O, hO, hO3⟩ := cyc 3 other (by omega) (by omega)
  simp only [Int.cast_ofNat_Int] at hK hO
  change Calls _ _ #[_, _, .agg #[.int .i64 rs, .int .i64 rc, .int .i64 rr, .bool rx, .bool ry]] W _
  go_enter Tryd.func4, Tryd.ntmps4
  go_upto_region 1 with (fail)
  rw [HW1.out]
  clear HW1
  go_wp2_with fail
  refine HF.out.mono ?_
  rintro e w2 ⟨rfl, hX2⟩
  have HX2 := Lib.hid (HX1.out.trans hX2)
  have HG2 := Lib.hid (hX2.blk HG1.out)
  have c1 : w2.cell? ⟨W.heap.size, 1, none⟩ = some (.int .i64 rc) := by rw [cell_of_row w2 W.heap.size 1 _ _ _ HG2.out]; rfl
  have c2 : w2.cell? ⟨W.heap.size, 2, none⟩ = some (.int .i64 rr) := by rw [cell_of_row w2 W.heap.size 2 _ _ _ HG2.out]; rfl
  clear hX2 HF
  by_cases h1 : rc < 0
  · go_wp2_with fail
    go_ret
    exact ⟨rfl, HX2.out⟩
  have h1' : 0 ≤ rc := by omega
  by_cases h2 : 25 < rc
  · clear h1
    go_wp2_with fail
    go_ret
    exact ⟨rfl, HX2.out⟩
  have h2' : rc ≤ 25 := by omega
  by_cases h3 : rr < 0
  · clear h1 h2
    go_wp2_with fail
    go_ret
    exact ⟨rfl, HX2.out⟩
  have h3' : 0 ≤ rr := by omega
  by_cases h4 : 98 < rr
  · clear h1 h2 h3
    go_wp2_with fail
    go_ret
    exact ⟨rfl, HX2.out⟩
  obtain ⟨c, rfl⟩ := Int.eq_ofNat_of_zero_le h1'
  obtain ⟨q, rfl⟩ := Int.eq_ofNat_of_zero_le h3'
  have hc26 : (c : Int) ≤ 25 := by omega
  have hq99 : (q : Int) ≤ 98 := by omega
  have HC := Lib.hid (show c < 26 by omega)
  have HQ := Lib.hid (show q < 99 by omega)
  have hf0 := frozen_of_row w2 W.heap.size 0 _ _ HG2.out
  have c0 : w2.cell? ⟨W.heap.size, 0, none⟩ = some (.int .i64 rs) := by rw [cell_of_row w2 W.heap.size 0 _ _ _ HG2.out]; rfl
  clear h1 h2 h3 h4 h1' h2' h3'
  have HK3 := Lib.hid hK3
  have HO3 := Lib.hid hO3
  have hKI : (K : Int) < 3 := by omega
  have hOI : (O : Int) < 3 := by omega
  clear hK3 hO3
  go_upto_region 7 with (fail)
  obtain ⟨W3, hW3⟩ : ∃ W3, w2.setCell ⟨W.heap.size, 0, none⟩ (.int .i64 (K : Int)) = W3 := ⟨_, rfl⟩
  have hg3 : W3.heap[W.heap.size]? = some (.cells #[.int .i64 (K : Int), .int .i64 (c : Int), .int .i64 (q : Int), .bool rx, .bool ry] 30 (0, 0)) := by rw [← hW3, hq_put rfl, HG2.out]; rfl
  have HX3 : Hid (Ext W W3) := Lib.hid (by rw [← hW3]; exact below_set HX2.out (Nat.le_refl _))
  have HG3 := Lib.hid hg3
  rw [hW3]
  clear hW3 c0 c1 c2 hf0
  have c2 : W3.cell? ⟨W.heap.size, 2, none⟩ = some (.int .i64 (q : Int)) := by rw [cell_of_row W3 W.heap.size 2 _ _ _ hg3]; rfl
  clear hg3
  have hw1 : wrap64 ((q : Int) + 1) = ((q + 1 : Nat) : Int) := IntWalk.wrap64_in _ ⟨by omega, by omega⟩
  have HD0 : Hid (Num.dig (q + 1) ++ [] = D2 (q + 1)) := Lib.hid (by rw [List.append_nil]; exact dig_two q HQ.out)
  have HQ1 : Hid (q + 1 ≤ 99) := Lib.hid (by have := HQ.out; omega)
  go_wp2_with fail
  clear hw1 c2
  go_loopw [7, 8] (fun sa sk wr => ∃ k : Nat, k ≤ 99 ∧ sk = .int .i64 (k : Int) ∧ ∃ A : ByteArray, sa = .string A ∧ Hid (Num.dig k ++ A.data.toList = D2 (q + 1)) ∧ Hid (Ext W3 wr)) (fun _ sk _ => (intOf sk).toNat)
  case atStart => exact ⟨q + 1, HQ1.out, rfl, _, rfl, HD0, Lib.hid (Ext.refl _)⟩
  case round =>
    obtain ⟨k, hk, rfl, A, rfl, HA, HXr⟩ := hrel
    have hA : (A.size : Int) ≤ 2 := by
      have h1 := congrArg List.length HA.out
      have h2 := (d2_facts (q + 1) (by have := HQ.out; omega)).2.2.1
      rw [List.length_append] at h1
      have h3 : A.data.toList.length = A.size := by simp
      omega
    by_cases hk0 : k = 0
    · subst hk0
      have hAD : A = mk (D2 (q + 1)) := by
        apply ByteArray.ext
        have h1 := HA.out
        rw [Num.dig_zero, List.nil_append] at h1
        simp [mk, ← h1]
      have HXw := Lib.hid (HX3.out.trans HXr.out)
      have HGr := Lib.hid (HXr.out.blk HG3.out)
      have c1 : wr.cell? ⟨W.heap.size, 1, none⟩ = some (.int .i64 (c : Int)) := by rw [cell_of_row wr W.heap.size 1 _ _ _ HGr.out]; rfl
      have hcv := fun w => byte_text (65 + (c : Int)) (colB c) (by rw [colB_nat HC.out]; rfl) w
      have hbs : (mk [colB c]).size = 1 := rfl
      obtain ⟨SB, hSB⟩ : ∃ SB, mk (bodyL false false c q) = SB := ⟨_, rfl⟩
      have hS : mk [colB c] ++ A = SB := by
        rw [hAD, mk_app, ← hSB]
        simp [bodyL, dol]
      have hSs : (SB.size : Int) ≤ 5 := by rw [← hSB, mk_size]; have := short_body c q HQ.out; omega
      obtain ⟨b2, hb2⟩ : ∃ b2, UInt8.ofNat (49 + O) = b2 := ⟨_, rfl⟩
      have ho49 : b2.toNat = 49 + O := by have := HO3.out; rw [← hb2]; simp only [UInt8.toNat_ofNat']; omega
      have HO49 := Lib.hid ho49
      have HS2 : Hid (⟨#[83]⟩ ++ mk [b2] ++ ⟨#[33]⟩ ++ SB ++ ⟨#[58]⟩ ++ SB = mk (fullL O false false c q ++ 58 :: bodyL false false c q)) := Lib.hid (by
        show mk [83] ++ mk [b2] ++ mk [33] ++ SB ++ mk [58] ++ SB = _
        rw [← hSB]
        simp only [mk_app]
        simp [fullL, ← hb2])
      have HS3 : Hid (⟨#[83, 49, 33]⟩ ++ SB ++ ⟨#[58, 83, 50, 33]⟩ ++ SB = mk (fullL 0 false false c q ++ 58 :: fullL 1 false false c q)) := Lib.hid (by
        show mk [83, 49, 33] ++ SB ++ mk [58, 83, 50, 33] ++ SB = _
        rw [← hSB]
        simp only [mk_app]
        simp [fullL])
      obtain ⟨W4, hW4, hE4, hG4, hL4, hS4⟩ := new_blk wr #[.int .u8 (65 + (c : Int))] 5
      have HW4 := Lib.hid hW4
      have HX4 := Lib.hid (HXw.out.trans hE4)
      have HGR4 := Lib.hid (hE4.blk HGr.out)
      have HP1 := Lib.hid (pars_any (bodyL false false c q) K _ W4 (read1 HK3.out HC.out HQ.out) HK3.out (HE.out.ext HX4.out))
      rw [hSB] at HP1
      have HP2 := Lib.hid (fun w hE => pars_any (fullL O false false c q ++ 58 :: bodyL false false c q) K _ w (read2 HK3.out HO3.out HC.out HQ.out) HK3.out hE)
      obtain ⟨p3, hp3⟩ := read3 HK3.out HC.out HQ.out
      have HP3 := Lib.hid (fun w hE => pars_any (fullL 0 false false c q ++ 58 :: fullL 1 false false c q) K _ w hp3 HK3.out hE)
      clear hAD hk HA HXr hSB hW4 hE4 hG4 hL4 hS4 hp3 hb2 ho49
      go_upto_region 13 with (fail)
      rw [HW4.out]
      clear HW4 hcv c1 hS
      go_wp2_with fail
      refine HP1.out.mono ?_
      rintro e w5 ⟨hX5, ⟨t', f, hRe, rfl, hRep⟩ | ⟨cc, p, hRe, -⟩⟩
      case inr => cases hRe
      injection hRe with hRe
      subst hRe
      obtain ⟨pn, capn, rfl⟩ := hRep.own
      obtain ⟨W5, hW5, hE5, hG5, hL5, hS5⟩ := new_blk w5 ((oneS (rfK K c q)).fl pn 0 capn).cells 33
      have HW5 := Lib.hid hW5
      have HG5 := Lib.hid hG5
      have HX45 := Lib.hid (hX5.trans hE5)
      obtain ⟨W6, hW6, hE6, hG6, hL6, hS6⟩ := new_blk W5 #[.int .u8 (49 + (O : Int))] 5
      have HE6 := Lib.hid hE6
      have HX6 := Lib.hid (HX4.out.trans (HX45.out.trans hE6))
      have HC2 := Lib.hid (HP2.out W6 (HE.out.ext HX6.out))
      have hcv := byte_text (49 + (O : Int)) b2 (by rw [HO49.out]; rfl) W5
      rw [hW6] at hcv
      have hbs2 : (mk [b2]).size = 1 := rfl
      have hS2 := HS2.out
      clear hX5 hRep hW5 hE5 hG5 hL5 hS5 HP1 HP2 hE6 hG6 hL6 hS6 hbs
      unfold Fl.val
      go_upto_region 14 with (first | ((with_reducible refine wpl_guard (isStore 33) ?_ ?_); (· rfl); refine wpl_store (t := ?_) (old := ?_) (w' := ?_) rfl 33 _ _ rfl rfl rfl ?_ ?_ ?_ ?_ ?_ ?_; rotate_left 2; (· (first | (with_reducible assumption) | (simp (disch := (first | omega | (simp only [World.size_alloc, World.size_setCell, World.size_drew, size_setRow]; done) | (simp only [World.size_alloc, World.size_setCell, World.size_drew, size_setRow]; omega))) only [hq_at, hq_past, hq_drew, hq_drewN, hq_cell, hq_row, hq_same, rowOf_cells, Option.map_some, *]; rfl) | (simp (disch := (first | omega | (simp only [World.size_alloc, World.size_setCell, World.size_drew, size_setRow]; done) | (simp only [World.size_alloc, World.size_setCell, World.size_drew, size_setRow]; omega))) only [hq_at, hq_past, hq_drew, hq_drewN, hq_cell, hq_row, hq_same, rowOf_cells, Option.map_some, *]))); (· kernel_rfl); (· rfl); (· rfl); rotate_left 1; (· (first | (simp (disch := (first | omega | (simp only [World.size_alloc, World.size_setCell, World.size_drew, size_setRow]; done) | (simp only [World.size_alloc, World.size_setCell, World.size_drew, size_setRow]; omega))) only [setRow_at, setRow_past, setRow_drew]; rfl) | rfl))))
      rw [HW5.out]
      clear HW5
      go_wp2_with fail
      clear hS2 hcv hbs2
      refine HC2.out.mono ?_
      rintro e w7 ⟨hX7, ⟨t', f, hRe, rfl, hRep⟩ | ⟨cc, p, hRe, -⟩⟩
      case inr => cases hRe
      injection hRe with hRe
      subst hRe
      obtain ⟨pm, capm, rfl⟩ := hRep.own
      obtain ⟨W7, hW7, hE7, hG7, hL7, hS7⟩ := new_blk w7 ((areaS (rfK O c q) (rfK O c q)).fl pm 0 capm).cells 33
      have HW7 := Lib.hid hW7
      have HG7 := Lib.hid hG7
      have HX67 := Lib.hid (hX7.trans hE7)
      have HC3 := Lib.hid (HP3.out W7 (HE.out.ext (HX6.out.trans HX67.out)))
      have hS3 := HS3.out
      clear hX7 hRep hW7 hE7 hG7 hL7 hS7 HP3 HC2 hW6
      unfold Fl.val
      go_upto_region 15 with (first | ((with_reducible refine wpl_guard (isStore 33) ?_ ?_); (· rfl); refine wpl_store (t := ?_) (old := ?_) (w' := ?_) rfl 33 _ _ rfl rfl rfl ?_ ?_ ?_ ?_ ?_ ?_; rotate_left 2; (· (first | (with_reducible assumption) | (simp (disch := (first | omega | (simp only [World.size_alloc, World.size_setCell, World.size_drew, size_setRow]; done) | (simp only [World.size_alloc, World.size_setCell, World.size_drew, size_setRow]; omega))) only [hq_at, hq_past, hq_drew, hq_drewN, hq_cell, hq_row, hq_same, rowOf_cells, Option.map_some, *]; rfl) | (simp (disch := (first | omega | (simp only [World.size_alloc, World.size_setCell, World.size_drew, size_setRow]; done) | (simp only [World.size_alloc, World.size_setCell, World.size_drew, size_setRow]; omega))) only [hq_at, hq_past, hq_drew, hq_drewN, hq_cell, hq_row, hq_same, rowOf_cells, Option.map_some, *]))); (· kernel_rfl); (· rfl); (· rfl); rotate_left 1; (· (first | (simp (disch := (first | omega | (simp only [World.size_alloc, World.size_setCell, World.size_drew, size_setRow]; done) | (simp only [World.size_alloc, World.size_setCell, World.size_drew, size_setRow]; omega))) only [setRow_at, setRow_past, setRow_drew]; rfl) | rfl))))
      rw [HW7.out]
      clear HW7
      go_wp2_with fail
      clear hS3
      refine HC3.out.mono ?_
      rintro e w8 ⟨hX8, ⟨t', f, hRe, -, -⟩ | ⟨cc, p, hRe, rfl⟩⟩
      · cases hRe
      injection hRe with hRe
      injection hRe with hc6 hpp
      subst hc6 hpp
      obtain ⟨W8, hW8, hE8, hG8, hL8, hS8⟩ := new_blk w8 zF.cells 33
      have HW8 := Lib.hid hW8
      have HX78 := Lib.hid (hX8.trans hE8)
      have hgm := HX78.out.blk HG7.out
      have hgn := (HE6.out.trans (HX67.out.trans HX78.out)).blk HG5.out
      have hgr := (HX45.out.trans (HE6.out.trans (HX67.out.trans HX78.out))).blk HGR4.out
      have n5 : W8.cell? ⟨w5.heap.size, 5, none⟩ = some (.int .i64 (K : Int)) := by rw [cell_of_row W8 w5.heap.size 5 _ _ _ hgn]; rfl
      have n6 : W8.cell? ⟨w5.heap.size, 6, none⟩ = some (.int .i64 (c : Int)) := by rw [cell_of_row W8 w5.heap.size 6 _ _ _ hgn]; rfl
      have n7 : W8.cell? ⟨w5.heap.size, 7, none⟩ = some (.int .i64 (q : Int)) := by rw [cell_of_row W8 w5.heap.size 7 _ _ _ hgn]; rfl
      have m5 : W8.cell? ⟨w7.heap.size, 5, none⟩ = some (.int .i64 (O : Int)) := by rw [cell_of_row W8 w7.heap.size 5 _ _ _ hgm]; rfl
      have m10 : W8.cell? ⟨w7.heap.size, 10, none⟩ = some (.int .i64 (O : Int)) := by rw [cell_of_row W8 w7.heap.size 10 _ _ _ hgm]; rfl
      have r0 : W8.cell? ⟨W.heap.size, 0, none⟩ = some (.int .i64 (K : Int)) := by rw [cell_of_row W8 W.heap.size 0 _ _ _ hgr]; rfl
      have r1 : W8.cell? ⟨W.heap.size, 1, none⟩ = some (.int .i64 (c : Int)) := by rw [cell_of_row W8 W.heap.size 1 _ _ _ hgr]; rfl
      have r2 : W8.cell? ⟨W.heap.size, 2, none⟩ = some (.int .i64 (q : Int)) := by rw [cell_of_row W8 W.heap.size 2 _ _ _ hgr]; rfl
      have heq := fun w => eqlC (K : Int) (c : Int) (q : Int) w
      clear hX8 hW8 hE8 hG8 hL8 hS8 HC3 hgm hgn hgr
      unfold Fl.val
      go_upto_region 16 with (first | ((with_reducible refine wpl_guard (isStore 33) ?_ ?_); (· rfl); refine wpl_store (t := ?_) (old := ?_) (w' := ?_) rfl 33 _ _ rfl rfl rfl ?_ ?_ ?_ ?_ ?_ ?_; rotate_left 2; (· (first | (with_reducible assumption) | (simp (disch := (first | omega | (simp only [World.size_alloc, World.size_setCell, World.size_drew, size_setRow]; done) | (simp only [World.size_alloc, World.size_setCell, World.size_drew, size_setRow]; omega))) only [hq_at, hq_past, hq_drew, hq_drewN, hq_cell, hq_row, hq_same, rowOf_cells, Option.map_some, *]; rfl) | (simp (disch := (first | omega | (simp only [World.size_alloc, World.size_setCell, World.size_drew, size_setRow]; done) | (simp only [World.size_alloc, World.size_setCell, World.size_drew, size_setRow]; omega))) only [hq_at, hq_past, hq_drew, hq_drewN, hq_cell, hq_row, hq_same, rowOf_cells, Option.map_some, *]))); (· kernel_rfl); (· rfl); (· rfl); rotate_left 1; (· (first | (simp (disch := (first | omega | (simp only [World.size_alloc, World.size_setCell, World.size_drew, size_setRow]; done) | (simp only [World.size_alloc, World.size_setCell, World.size_drew, size_setRow]; omega))) only [setRow_at, setRow_past, setRow_drew]; rfl) | rfl))))
      rw [HW8.out]
      clear HW8
      go_wp2_with fail
      go_ret
      exact ⟨rfl, HX6.out.trans (HX67.out.trans HX78.out)⟩
    have hk1 : (0 : Int) < (k : Int) := by omega
    have HK0 := Lib.hid hk0
    obtain ⟨b, hb⟩ : ∃ b : UInt8, UInt8.ofNat (48 + k % 10) = b := ⟨_, rfl⟩
    have hbn : b.toNat = 48 + k % 10 := by rw [← hb]; exact Num.u8_dig (k % 10) (by omega)
    have hcv := fun w => byte_text (48 + (k : Int) % 10) b (by omega) w
    have hbs : (mk [b]).size = 1 := rfl
    have HST : Hid (Num.dig k ++ A.data.toList = Num.dig (k / 10) ++ (b :: A.data.toList)) := Lib.hid (by rw [Num.dig_step k hk0, hb, List.append_assoc]; rfl)
    have HKL : Hid (k / 10 < k ∧ k / 10 ≤ 99) := Lib.hid (by omega)
    have hk99 : (k : Int) ≤ 99 := by omega
    clear hb hbn hk0
    go_wp2_with fail
    refine ⟨⟨k / 10, HKL.out.2, by rfl, _, rfl, Lib.hid ?_, Lib.hid (HXr.out.trans (below_alloc1 _ _))⟩, by have := HKL.out.1; simp [intOf]; omega⟩
    rw [← HA.out, HST.out]
    congr 1
end Go.Proofs.YtffogjhjgmohiaaDoor.parseSheets
