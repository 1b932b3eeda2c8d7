/-
  parse: area: walk. Conditions: each theorem's own.
-/
import Derived.Test.YtffogjhjgmohiaaDoorParE
import Derived.Test.YtffogjhjgmohiaaDoorRegionS
namespace Go.Proofs.YtffogjhjgmohiaaDoor
open Go.RowKit
set_option linter.unusedVariables false
set_option linter.unusedSimpArgs false

set_option maxRecDepth 100000 in
set_option maxHeartbeats 8000000 in
theorem area_any (b sh E d s : Nat) (ts : List Tok) (c r : Int) (x y : Bool) (W : World) (h : PAt b sh E d ts W) (hE : EnvX W) (hb : LowX b) (hs : s < 3) :
    Calls Tryd.prog 63 #[.pointer (some ⟨b, 0, none⟩), .agg #[.int .i64 (s : Int), .int .i64 c, .int .i64 r, .bool x, .bool y]] W (PostT b sh E d W (areaP E ⟨(s : Int), c, r, x, y⟩ ts)) := by
  obtain ⟨W0, hW0, hE0, hG0, hL0, hS0⟩ := new_blk W #[.int .i64 (s : Int), .int .i64 c, .int .i64 r, .bool x, .bool y] 30
  obtain ⟨W1, hW1, hE1, hG1, hL1, hS1⟩ := new_blk W0 zN 33
  rw [hS0] at hG1
  have h1 := h.ext (hE0.trans hE1)
  have HI := Lib.hid (is_any b sh E d ts [58] W1 h1)
  have HW0 := Lib.hid hW0
  have HW1 := Lib.hid hW1
  have HE1 := Lib.hid (hE0.trans hE1)
  have HG0 := Lib.hid (hE1.blk hG0)
  have HG1 := Lib.hid hG1
  have HSZ : Hid (W1.heap.size = W.heap.size + 2) := Lib.hid (by omega)
  have HP1 := Lib.hid h1
  have HENV := Lib.hid hE
  have HLOW := Lib.hid hb
  have HB := Lib.hid h.deep.2.2
  have HS := Lib.hid hs
  clear h h1 hW0 hE0 hG0 hL0 hS0 hW1 hE1 hG1 hL1 hS1 hE hb hs
  unfold zN at HW1
  go_enter Tryd.func63, Tryd.ntmps63
  go_upto_region 1 with (fail)
  rw [HW0.out, HW1.out]
  clear HW0 HW1
  go_wp2_with fail
  refine HI.out.mono ?_
  rintro e w2 (⟨r1, hi, rfl, hP2, hX2⟩ | ⟨hi, rfl, rfl⟩)
  case inr =>
    have HR : Hid (areaP E ⟨(s : Int), c, r, x, y⟩ ts = .ok (.mk (oneS ⟨(s : Int), c, r, x, y⟩) [], ts)) := Lib.hid (by rw [areaP, hi])
    have hg0 := HG0.out
    clear hi
    go_wp2_with (first | ((with_reducible refine wpl_guard (isLoad 30) ?_ ?_); (· rfl); refine wpl_load (t := ?_) (cs := ?_) (fr := ?_) rfl 30 _ rfl rfl ?_ Tryd.underlying30 rfl ?_ ?_; rotate_left 3; (· (first | (with_reducible assumption) | (simp (disch := (first | omega | (simp only [World.size_alloc, World.size_setCell, World.size_drew, size_setRow]; done) | (simp only [World.size_alloc, World.size_setCell, World.size_drew, size_setRow]; omega))) only [hq_at, hq_past, hq_drew, hq_drewN, hq_cell, hq_row, hq_same, rowOf_cells, Option.map_some, *]; rfl) | (simp (disch := (first | omega | (simp only [World.size_alloc, World.size_setCell, World.size_drew, size_setRow]; done) | (simp only [World.size_alloc, World.size_setCell, World.size_drew, size_setRow]; omega))) only [hq_at, hq_past, hq_drew, hq_drewN, hq_cell, hq_row, hq_same, rowOf_cells, Option.map_some, *]))); (· kernel_rfl); (try dsimp only [Act.put, List.setIfInBounds_toArray, List.set_cons_zero, List.set_cons_succ])))
    refine (tcell_any ⟨(s : Int), c, r, x, y⟩ _).mono ?_
    rintro e w3 ⟨rfl, hE3⟩
    have HE3 := Lib.hid hE3
    have hgR : w3.heap[W.heap.size + 1]? = some (.cells zN 33 (0, 0)) := hE3.blk HG1.out
    clear hE3 hg0
    unfold zN at hgR
    unfold Fl.val
    go_wp2_with (first | ((with_reducible refine wpl_guard (isStore 33) ?_ ?_); (· rfl); refine wpl_store (t := ?_) (old := ?_) (w' := ?_) rfl 33 _ _ rfl rfl rfl ?_ ?_ ?_ ?_ ?_ ?_; rotate_left 2; (· (first | (with_reducible assumption) | (simp (disch := (first | omega | (simp only [World.size_alloc, World.size_setCell, World.size_drew, size_setRow]; done) | (simp only [World.size_alloc, World.size_setCell, World.size_drew, size_setRow]; omega))) only [hq_at, hq_past, hq_drew, hq_drewN, hq_cell, hq_row, hq_same, rowOf_cells, Option.map_some, *]; rfl) | (simp (disch := (first | omega | (simp only [World.size_alloc, World.size_setCell, World.size_drew, size_setRow]; done) | (simp only [World.size_alloc, World.size_setCell, World.size_drew, size_setRow]; omega))) only [hq_at, hq_past, hq_drew, hq_drewN, hq_cell, hq_row, hq_same, rowOf_cells, Option.map_some, *]))); (· kernel_rfl); (· rfl); (· rfl); rotate_left 1; (· (first | (simp (disch := (first | omega | (simp only [World.size_alloc, World.size_setCell, World.size_drew, size_setRow]; done) | (simp only [World.size_alloc, World.size_setCell, World.size_drew, size_setRow]; omega))) only [setRow_at, setRow_past, setRow_drew]; rfl) | rfl))))
    exact par_end rfl HB.out (Nat.le_succ _) (.of_ext (HE1.out.trans HE3.out)) (HP1.out.ext HE3.out) hgR (rep_one _ _ _) HR.out rfl rfl
  have HX2 := Lib.hid hX2
  have HX02 := Lib.hid ((ExtX.of_ext HE1.out).trans hX2)
  have HP2 := Lib.hid hP2
  have HIS := Lib.hid hi
  have HF2 := Lib.hid (fail_at b sh E d r1 2 w2 hP2)
  obtain ⟨p, cap, h⟩ := hP2
  clear hX2 hi
  cases r1 with
  | nil =>
    obtain ⟨c0, c1, c2, c3⟩ := h.cells
    have HR : Hid (areaP E ⟨(s : Int), c, r, x, y⟩ ts = .error (2, posF E [])) := Lib.hid (by rw [areaP, HIS.out]; rfl)
    clear h
    go_wp2_with fail
    refine HF2.out.mono ?_
    rintro e w3 ⟨rfl, rfl⟩
    exact ⟨rfl, .inr ⟨2, _, HR.out, rfl, HX02.out⟩⟩
  | cons t r2 =>
    obtain ⟨N, hN⟩ : ∃ N, r2.length = N := ⟨_, rfl⟩
    obtain ⟨g, o, rfl, hg, c0, d0, d1, d2, hcap⟩ := h.read hN
    have hl := h.lim.1
    rw [List.length_cons, hN] at hl
    have hq : (((N : Int) + 1) == 0) = false := by rw [beq_eq_false_iff_ne]; omega
    have hq' : ¬ ((N : Int) + 1 = 0) := by omega
    have hpos : (0 : Int) < (N : Int) + 1 := by omega
    have hpos1 : (1 : Int) ≤ (N : Int) + 1 := by omega
    have hcI : (N : Int) + 1 ≤ (cap : Int) := by omega
    have HPS := Lib.hid h
    have HN := Lib.hid hN
    have HCAP := Lib.hid hcap
    have HTL := Lib.hid (h.lim.2.1 t (by simp)).1
    by_cases hk : t.k = 3
    case neg =>
      have HR : Hid (areaP E ⟨(s : Int), c, r, x, y⟩ ts = .error (2, posF E (t :: r2))) := Lib.hid (by rw [areaP, HIS.out]; simp [hk, posF])
      have hkq : ((t.k : Int) == 3) = false := by rw [beq_eq_false_iff_ne]; omega
      have hkq' : ¬ ((t.k : Int) = 3) := by omega
      clear h hl hk hN d1 d2 hcap
      go_wp2_with fail
      refine HF2.out.mono ?_
      rintro e w3 ⟨rfl, rfl⟩
      exact ⟨rfl, .inr ⟨2, _, HR.out, rfl, HX02.out⟩⟩
    rw [hk] at d0
    have HK := Lib.hid hk
    have f0 : w2.frozen? ⟨b, 0, none⟩ = false := frozen_of_row w2 b 0 _ _ h.blk
    have HLT := Lib.hid h.lt
    have hr := Ext.refl w2
    have e1 := addr_e t.s s w2 HTL.out HS.out (HENV.out.extX HLOW.out HX02.out).1.2
    have hg0 : w2.heap[W.heap.size]? = some _ := HX2.out.blk HG0.out (by have := HB.out; omega)
    have hc0 := cell_of_row w2 W.heap.size 0 _ _ _ hg0
    simp only [List.getElem?_toArray, List.getElem?_cons_zero] at hc0
    have z0 := ext_cell h.lt c0
    have z1 := ext_cell (World.block_lt_of_cell? _ _ d1) d1
    have z2 := ext_cell (blk_lt hg0) hc0
    have HG20 := Lib.hid hg0
    clear h hl hk hN hcap hg0
    go_upto_region 5 with (fail)
    clear c0 d0 d1 d2 hc0 hq hq'
    have HP2' := Lib.hid HP2.out
    cases hrf : refF t.s s with
    | none =>
      have hpv : parV t.s s = .tuple #[.agg #[.int .i64 0, .int .i64 0, .int .i64 0, .bool false, .bool false], .bool false] := by rw [parV, hrf]; rfl
      rw [hpv] at e1
      have HR : Hid (areaP E ⟨(s : Int), c, r, x, y⟩ ts = .error (6, posF E (t :: r2))) := Lib.hid (by rw [areaP, HIS.out]; simp [HK.out, posF, hrf])
      clear hpv hrf
      refine region_store w2 [5] [] (Ext.refl w2) ?apt (fun x hx => by cases hx) (by simp [tmps]) (by kernel_rfl) (by kernel_rfl) rfl (fun K hK => ?_)
      case apt =>
        refine ⟨fun d hd x hx => ?_, fun d hd d' hd' hne => ?_⟩
        · simp only [List.mem_cons, List.not_mem_nil, or_false] at hd
          subst hd
          cases hx
        · simp only [List.mem_cons, List.not_mem_nil, or_false] at hd hd'
          exact absurd (hd.trans hd'.symm) hne
      repeat (first | (refine sequ_skip (by rfl) (fun ρ => by rfl) ?_; (try simp only [Act.put, List.setIfInBounds_toArray, List.set_cons_zero, List.set_cons_succ])) | (refine sequ_pure (v := ?_) (by rfl) (fun ρ => by rfl) (fun ρ w hE hF => ?_) ?_; rotate_left 1; (· ((try simp only [fill, Act.put, List.setIfInBounds_toArray, List.set_cons_zero, List.set_cons_succ]); go_simp; try with_reducible rfl)); (try simp only [Act.put, List.setIfInBounds_toArray, List.set_cons_zero, List.set_cons_succ])) | (refine sequ_call0 (v := ?_) (f := ?_) (args := ?_) (by rfl) (fun ρ => by rfl) (fun ρ w => ?_) (fun w hE => ?_) ?_; rotate_left 3; (· ((try simp only [fill, Act.put, List.setIfInBounds_toArray, List.set_cons_zero, List.set_cons_succ]); go_simp; constructor <;> with_reducible rfl)); (· (with_reducible exact CallE.call (by assumption) hE)); (try simp only [Act.put, List.setIfInBounds_toArray, List.set_cons_zero, List.set_cons_succ])))
      (refine sequ_own 30 (#[.int .i64 0, .int .i64 0, .int .i64 0, .bool false, .bool false]) rfl (by decide) (by rfl) (fun ρ => by rfl) (fun ρ w hE hF => ?_) ?_; (· ((try simp only [fill, Act.put, List.setIfInBounds_toArray, List.set_cons_zero, List.set_cons_succ]); go_simp; try rfl)); (try simp only [Act.put, List.setIfInBounds_toArray, List.set_cons_zero, List.set_cons_succ]))
      (refine sequ_store (cells := #[.int .i64 0, .int .i64 0, .int .i64 0, .bool false, .bool false]) rfl rfl rfl (by decide) (.head _) 15 rfl (by kernel_rfl) (fun ρ => by (try simp only [fill, Act.put, List.setIfInBounds_toArray, List.set_cons_zero, List.set_cons_succ]); rfl) (by kernel_rfl) rfl rfl ?_; simp only [upd, Nat.reduceEqDiff, if_true, if_false])
      repeat (first | (refine sequ_skip (by rfl) (fun ρ => by rfl) ?_; (try simp only [Act.put, List.setIfInBounds_toArray, List.set_cons_zero, List.set_cons_succ])) | (refine sequ_pure (v := ?_) (by rfl) (fun ρ => by rfl) (fun ρ w hE hF => ?_) ?_; rotate_left 1; (· ((try simp only [fill, Act.put, List.setIfInBounds_toArray, List.set_cons_zero, List.set_cons_succ]); go_simp; try with_reducible rfl)); (try simp only [Act.put, List.setIfInBounds_toArray, List.set_cons_zero, List.set_cons_succ])) | (refine sequ_call0 (v := ?_) (f := ?_) (args := ?_) (by rfl) (fun ρ => by rfl) (fun ρ w => ?_) (fun w hE => ?_) ?_; rotate_left 3; (· ((try simp only [fill, Act.put, List.setIfInBounds_toArray, List.set_cons_zero, List.set_cons_succ]); go_simp; constructor <;> with_reducible rfl)); (· (with_reducible exact CallE.call (by assumption) hE)); (try simp only [Act.put, List.setIfInBounds_toArray, List.set_cons_zero, List.set_cons_succ])))
      refine sequ_done (fun ρ wN hEN hFN => ?_); (try simp only [fill, Act.put, List.setIfInBounds_toArray, List.set_cons_zero, List.set_cons_succ]); refine (show K _ _ from hK.out _ _ ?_); clear hK K
      obtain ⟨g5, hp5, hl5, hG5⟩ := hFN _ (.head _)
      simp only at hp5
      rw [hp5]
      have hE5 := hEN
      have hW5 := hp5
      obtain ⟨W5, hWN⟩ : ∃ W5, wN = W5 := ⟨_, rfl⟩
      rw [hWN] at hE5 hG5 ⊢
      have hb5 := hl5
      have HE5 := Lib.hid hE5
      have HG5 := Lib.hid hG5
      have HP5 := Lib.hid (HP2.out.ext hE5)
      have HL5 := Lib.hid hl5
      have HF5 := Lib.hid (fail_at b sh E d (t :: r2) 6 W5 (HP2.out.ext hE5))
      clear hW5 hE5 hG5 hl5 hb5 hEN hWN hFN hp5 e1 z0 z1 z2
      go_wp2_with fail
      refine HF5.out.mono ?_
      rintro e w3 ⟨rfl, rfl⟩
      exact ⟨rfl, .inr ⟨6, _, HR.out, rfl, HX02.out.trans (.of_ext HE5.out)⟩⟩
    | some rb =>
      obtain ⟨s', c', q', x', y', hb', rfl, -⟩ := refF_of HS.out hrf
      have hpv : parV t.s s = .tuple #[.agg #[.int .i64 (s' : Int), .int .i64 (c' : Int), .int .i64 (q' : Int), .bool x', .bool y'], .bool true] := by rw [parV, hrf]; rfl
      rw [hpv] at e1
      have HRF := Lib.hid hrf
      clear hpv hrf
      refine region_store w2 [5] [] (Ext.refl w2) ?apt (fun x hx => by cases hx) (by simp [tmps]) (by kernel_rfl) (by kernel_rfl) rfl (fun K hK => ?_)
      case apt =>
        refine ⟨fun d hd x hx => ?_, fun d hd d' hd' hne => ?_⟩
        · simp only [List.mem_cons, List.not_mem_nil, or_false] at hd
          subst hd
          cases hx
        · simp only [List.mem_cons, List.not_mem_nil, or_false] at hd hd'
          exact absurd (hd.trans hd'.symm) hne
      repeat (first | (refine sequ_skip (by rfl) (fun ρ => by rfl) ?_; (try simp only [Act.put, List.setIfInBounds_toArray, List.set_cons_zero, List.set_cons_succ])) | (refine sequ_pure (v := ?_) (by rfl) (fun ρ => by rfl) (fun ρ w hE hF => ?_) ?_; rotate_left 1; (· ((try simp only [fill, Act.put, List.setIfInBounds_toArray, List.set_cons_zero, List.set_cons_succ]); go_simp; try with_reducible rfl)); (try simp only [Act.put, List.setIfInBounds_toArray, List.set_cons_zero, List.set_cons_succ])) | (refine sequ_call0 (v := ?_) (f := ?_) (args := ?_) (by rfl) (fun ρ => by rfl) (fun ρ w => ?_) (fun w hE => ?_) ?_; rotate_left 3; (· ((try simp only [fill, Act.put, List.setIfInBounds_toArray, List.set_cons_zero, List.set_cons_succ]); go_simp; constructor <;> with_reducible rfl)); (· (with_reducible exact CallE.call (by assumption) hE)); (try simp only [Act.put, List.setIfInBounds_toArray, List.set_cons_zero, List.set_cons_succ])))
      (refine sequ_own 30 (#[.int .i64 0, .int .i64 0, .int .i64 0, .bool false, .bool false]) rfl (by decide) (by rfl) (fun ρ => by rfl) (fun ρ w hE hF => ?_) ?_; (· ((try simp only [fill, Act.put, List.setIfInBounds_toArray, List.set_cons_zero, List.set_cons_succ]); go_simp; try rfl)); (try simp only [Act.put, List.setIfInBounds_toArray, List.set_cons_zero, List.set_cons_succ]))
      (refine sequ_store (cells := #[.int .i64 (s' : Int), .int .i64 (c' : Int), .int .i64 (q' : Int), .bool x', .bool y']) rfl rfl rfl (by decide) (.head _) 15 rfl (by kernel_rfl) (fun ρ => by (try simp only [fill, Act.put, List.setIfInBounds_toArray, List.set_cons_zero, List.set_cons_succ]); rfl) (by kernel_rfl) rfl rfl ?_; simp only [upd, Nat.reduceEqDiff, if_true, if_false])
      repeat (first | (refine sequ_skip (by rfl) (fun ρ => by rfl) ?_; (try simp only [Act.put, List.setIfInBounds_toArray, List.set_cons_zero, List.set_cons_succ])) | (refine sequ_pure (v := ?_) (by rfl) (fun ρ => by rfl) (fun ρ w hE hF => ?_) ?_; rotate_left 1; (· ((try simp only [fill, Act.put, List.setIfInBounds_toArray, List.set_cons_zero, List.set_cons_succ]); go_simp; try with_reducible rfl)); (try simp only [Act.put, List.setIfInBounds_toArray, List.set_cons_zero, List.set_cons_succ])) | (refine sequ_call0 (v := ?_) (f := ?_) (args := ?_) (by rfl) (fun ρ => by rfl) (fun ρ w => ?_) (fun w hE => ?_) ?_; rotate_left 3; (· ((try simp only [fill, Act.put, List.setIfInBounds_toArray, List.set_cons_zero, List.set_cons_succ]); go_simp; constructor <;> with_reducible rfl)); (· (with_reducible exact CallE.call (by assumption) hE)); (try simp only [Act.put, List.setIfInBounds_toArray, List.set_cons_zero, List.set_cons_succ])))
      refine sequ_done (fun ρ wN hEN hFN => ?_); (try simp only [fill, Act.put, List.setIfInBounds_toArray, List.set_cons_zero, List.set_cons_succ]); refine (show K _ _ from hK.out _ _ ?_); clear hK K
      obtain ⟨g5, hp5, hl5, hG5⟩ := hFN _ (.head _)
      simp only at hp5
      rw [hp5]
      have hE5 := hEN
      have hW5 := hp5
      obtain ⟨W5, hWN⟩ : ∃ W5, wN = W5 := ⟨_, rfl⟩
      rw [hWN] at hE5 hG5 ⊢
      have hb5 := hl5
      have HE5 := Lib.hid hE5
      have HG5 := Lib.hid hG5
      have HP5 := Lib.hid (HP2.out.ext hE5)
      have HL5 := Lib.hid hl5
      have HF5 := Lib.hid (fail_at b sh E d (t :: r2) 6 W5 (HP2.out.ext hE5))
      have hg0 := hE5.blk HG20.out
      have k0 := cell_of_row W5 W.heap.size 0 _ _ _ hg0
      have k5 := cell_of_row W5 g5 0 _ _ _ hG5
      simp only [List.getElem?_toArray, List.getElem?_cons_zero] at k0 k5
      by_cases hss : s' = s
      · subst hss
        have HR : Hid (areaP E ⟨(s' : Int), c, r, x, y⟩ ts = .ok (.mk (areaS ⟨(s' : Int), c, r, x, y⟩ ⟨(s' : Int), (c' : Int), (q' : Int), x', y'⟩) [], r2)) := Lib.hid (by rw [areaP, HIS.out]; simp [HK.out, HRF.out])
        have c0 := z0 W5 hE5
        have f0' := ext_frozen HLT.out f0 W5 hE5
        clear hW5 hE5 hG5 hl5 hb5 hEN hWN hFN hp5 e1 z0 z1 z2 f0
        go_upto_region 9 with (fail)
        obtain ⟨p', hp'⟩ : ∃ p', (if cap = 1 then (some ⟨g, o, none⟩ : Option Addr) else some ⟨g, o + 3, none⟩) = p' := ⟨_, rfl⟩
        rw [hp']
        obtain ⟨W6, hW6⟩ : ∃ W6, W5.setCell ⟨b, 0, none⟩ (.slice p' N (cap - 1)) = W6 := ⟨_, rfl⟩
        have HP6 : Hid (PAt b sh E d r2 W6) := Lib.hid (by
          rw [← hW6]
          refine PAt.taken (HPS.out.ext HE5.out) HN.out ?_ ?_
          · intro h0
            have := HCAP.out
            rw [← hp', if_neg (by omega)]
          · have := HCAP.out
            omega)
        have HX6 : Hid (ExtX b W5 W6) := Lib.hid (by rw [← hW6]; exact set_ext _ _)
        rw [hW6]
        clear hW6 hp' c0 f0' k0 k5 hg0
        have h60 : W6.heap[W.heap.size]? = some (.cells #[.int .i64 (s' : Int), .int .i64 c, .int .i64 r, .bool x, .bool y] 30 (0, 0)) := HX6.out.blk (HE5.out.blk HG20.out) (by have := HB.out; omega)
        have h65 := HX6.out.blk HG5.out (by have := HL5.out; have := HLT.out; omega)
        go_wp2_with (first | ((with_reducible refine wpl_guard (isLoad 30) ?_ ?_); (· rfl); refine wpl_load (t := ?_) (cs := ?_) (fr := ?_) rfl 30 _ rfl rfl ?_ Tryd.underlying30 rfl ?_ ?_; rotate_left 3; (· (first | (with_reducible assumption) | (simp (disch := (first | omega | (simp only [World.size_alloc, World.size_setCell, World.size_drew, size_setRow]; done) | (simp only [World.size_alloc, World.size_setCell, World.size_drew, size_setRow]; omega))) only [hq_at, hq_past, hq_drew, hq_drewN, hq_cell, hq_row, hq_same, rowOf_cells, Option.map_some, *]; rfl) | (simp (disch := (first | omega | (simp only [World.size_alloc, World.size_setCell, World.size_drew, size_setRow]; done) | (simp only [World.size_alloc, World.size_setCell, World.size_drew, size_setRow]; omega))) only [hq_at, hq_past, hq_drew, hq_drewN, hq_cell, hq_row, hq_same, rowOf_cells, Option.map_some, *]))); (· kernel_rfl); (try dsimp only [Act.put, List.setIfInBounds_toArray, List.set_cons_zero, List.set_cons_succ])))
        refine (tspan_any ⟨(s' : Int), c, r, x, y⟩ ⟨(s' : Int), (c' : Int), (q' : Int), x', y'⟩ _).mono ?_
        rintro e w7 ⟨rfl, hE7⟩
        have HE7 := Lib.hid hE7
        have HX07 := Lib.hid (((HX2.out.trans (.of_ext HE5.out)).trans HX6.out).trans (.of_ext hE7))
        have hgR : w7.heap[W.heap.size + 1]? = some (.cells zN 33 (0, 0)) := HX07.out.blk HG1.out (by have := HB.out; omega)
        clear hE7 h60 h65
        unfold zN at hgR
        unfold Fl.val
        go_wp2_with (first | ((with_reducible refine wpl_guard (isStore 33) ?_ ?_); (· rfl); refine wpl_store (t := ?_) (old := ?_) (w' := ?_) rfl 33 _ _ rfl rfl rfl ?_ ?_ ?_ ?_ ?_ ?_; rotate_left 2; (· (first | (with_reducible assumption) | (simp (disch := (first | omega | (simp only [World.size_alloc, World.size_setCell, World.size_drew, size_setRow]; done) | (simp only [World.size_alloc, World.size_setCell, World.size_drew, size_setRow]; omega))) only [hq_at, hq_past, hq_drew, hq_drewN, hq_cell, hq_row, hq_same, rowOf_cells, Option.map_some, *]; rfl) | (simp (disch := (first | omega | (simp only [World.size_alloc, World.size_setCell, World.size_drew, size_setRow]; done) | (simp only [World.size_alloc, World.size_setCell, World.size_drew, size_setRow]; omega))) only [hq_at, hq_past, hq_drew, hq_drewN, hq_cell, hq_row, hq_same, rowOf_cells, Option.map_some, *]))); (· kernel_rfl); (· rfl); (· rfl); rotate_left 1; (· (first | (simp (disch := (first | omega | (simp only [World.size_alloc, World.size_setCell, World.size_drew, size_setRow]; done) | (simp only [World.size_alloc, World.size_setCell, World.size_drew, size_setRow]; omega))) only [setRow_at, setRow_past, setRow_drew]; rfl) | rfl))))
        exact par_end rfl HB.out (Nat.le_succ _) ((ExtX.of_ext HE1.out).trans HX07.out) (HP6.out.ext HE7.out) hgR (rep_area _ _ _ _) HR.out rfl rfl
      · have HR : Hid (areaP E ⟨(s : Int), c, r, x, y⟩ ts = .error (6, posF E (t :: r2))) := Lib.hid (by rw [areaP, HIS.out]; simp [HK.out, HRF.out, posF]; omega)
        have hne : ((s' : Int) == (s : Int)) = false := by rw [beq_eq_false_iff_ne]; omega
        have hne' : ¬ ((s' : Int) = (s : Int)) := by omega
        clear hW5 hE5 hG5 hl5 hb5 hEN hWN hFN hp5 e1 z0 z1 z2 hg0 hss
        go_wp2_with fail
        refine HF5.out.mono ?_
        rintro e w3 ⟨rfl, rfl⟩
        exact ⟨rfl, .inr ⟨6, _, HR.out, rfl, HX02.out.trans (.of_ext HE5.out)⟩⟩
def WordS (sh E n : Nat) : Prop := ∀ (b d : Nat) (t : Tok) (r : List Tok) (R) (W : World), wordF E sh n d t r = some R → t.k = 3 → PAt b sh E d (t :: r) W → EnvX W → LowX b →
  Calls Tryd.prog 54 #[.pointer (some ⟨b, 0, none⟩), .agg (tokC t.k t.s t.p)] W (PostT b sh E d W R)
def CallS (sh E n : Nat) : Prop := ∀ (b d : Nat) (t : Tok) (r r2 : List Tok) (R) (W : World), isS [40] r = some r2 → wordF E sh n d t r = some R → PAt b sh E d (t :: r) W → EnvX W → LowX b →
  Calls Tryd.prog 62 #[.pointer (some ⟨b, 0, none⟩), .agg (tokC t.k t.s t.p)] W (PostT b sh E d W R)
def wordL (s : List UInt8) : Fl := ⟨4, 0, 0, 0, ⟨#[]⟩, rf0, rf0, mk s, none, 0, 0⟩
theorem rep_word {W : World} {B : Nat → Prop} {s : List UInt8} (hs : s.length ≤ 1000) : Rep W B (wordT s) (wordL s) :=
  Rep.leaf W B ⟨4, 0, 0, 0, ⟨#[]⟩, rf0, rf0, mk s⟩ ⟨⟨by simp, by simp⟩, by show 0 ≤ _; omega, by show (mk s).size ≤ _; rw [mk_size]; omega⟩ none 0
theorem built_word (s : ByteArray) : Tryd.prog.built 33 [(0, .int .i64 4), (5, .string s)] = some #[.int .i64 4, .int .i64 0, .int .i64 0, .int .i64 0, .string ⟨#[]⟩, .int .i64 0, .int .i64 0, .int .i64 0, .bool false, .bool false, .int .i64 0, .int .i64 0, .int .i64 0, .bool false, .bool false, .string s, .slice none 0 0] := by kernel_rfl
/-- The second token. -/
theorem PS.second {b sh E d : Nat} {t u : Tok} {ts : List Tok} {g o c : Nat} {W : World} (h : PS b sh E d (t :: u :: ts) (some ⟨g, o, none⟩) c W) :
    W.cell? ⟨g, o + 3, none⟩ = some (.int .i64 (u.k : Int)) ∧ W.cell? ⟨g, o + 4, none⟩ = some (.string (Go.Proofs.YtffogjhjgmohiaaDoor.mk u.s)) := by
  obtain ⟨g', o', hp, hg, h3⟩ := h.tok 1 u rfl
  cases hp
  exact ⟨h3 0 _ rfl, h3 1 _ rfl⟩
theorem toks_ne {a b : List UInt8} (h : a ≠ b) : ¬ (mk a).toList = b := by
  rw [Lib.toList_data, mk_list]; exact h
theorem toks_nb {a b : List UInt8} (h : a ≠ b) : ((mk a).toList == b) = false := by
  rw [beq_eq_false_iff_ne]; exact toks_ne h
theorem toks_eq (a : List UInt8) : (mk a).toList = a := by rw [Lib.toList_data, mk_list]
set_option maxRecDepth 100000 in
set_option maxHeartbeats 8000000 in
theorem word_w (sh E n : Nat) (hC : CallS sh E (n + 1)) : WordS sh E (n + 1) := by
  intro b d t r R W hR hk3 h hE hb
  obtain ⟨W0, hW0, hE0, hG0, hL0, hS0⟩ := new_blk W (tokC t.k t.s t.p) 61
  obtain ⟨W1, hW1, hE1, hG1, hL1, hS1⟩ := new_blk W0 zN 33
  rw [hS0] at hG1
  have HP1 := Lib.hid (h.ext (hE0.trans hE1))
  have HW0 := Lib.hid hW0
  have HW1 := Lib.hid hW1
  have HE1 := Lib.hid (hE0.trans hE1)
  have HG0 := Lib.hid (hE1.blk hG0)
  have HG1 := Lib.hid hG1
  have HSZ : Hid (W1.heap.size = W.heap.size + 2) := Lib.hid (by omega)
  have HENV := Lib.hid hE
  have HLOW := Lib.hid hb
  have HB := Lib.hid h.deep.2.2
  have HLIM := Lib.hid h.lims
  have HR := Lib.hid hR
  have HC := Lib.hid hC
  have HK3 := Lib.hid hk3
  clear h hW0 hE0 hG0 hL0 hS0 hW1 hE1 hG1 hL1 hS1 hE hb hC hR hk3
  obtain ⟨p, cap, h⟩ := HP1.out
  obtain ⟨N, hN⟩ : ∃ N, r.length = N := ⟨_, rfl⟩
  obtain ⟨g, o, rfl, hg, c0, d0, d1, d2, hcap⟩ := h.read hN
  have hl := h.lim.1
  rw [List.length_cons, hN] at hl
  have hpos : (0 : Int) < (N : Int) + 1 := by omega
  have hpos1 : (1 : Int) ≤ (N : Int) + 1 := by omega
  have hcI : (N : Int) + 1 ≤ (cap : Int) := by omega
  have HPS := Lib.hid h
  have HN := Lib.hid hN
  have HCAP := Lib.hid hcap
  have HC0 := Lib.hid c0
  unfold zN at HW1
  unfold tokC at HW0 HG0
  unfold tokC
  go_enter Tryd.func54, Tryd.ntmps54
  go_upto_region 1 with (fail)
  rw [HW0.out, HW1.out]
  clear HW0 HW1
  cases hi : isS [40] r with
  | some r2 =>
    obtain ⟨u, r', rfl⟩ : ∃ u r', r = u :: r' := by
      cases r with
      | nil => cases hi
      | cons u r' => exact ⟨u, r', rfl⟩
    obtain ⟨d3, d4⟩ := h.second
    have hu : u.k = 4 ∧ u.s = [40] := by
      simp only [isS] at hi
      split at hi
      · rename_i hc; simpa using hc
      · cases hi
    rw [hu.1] at d3
    rw [hu.2] at d4
    have hN1 : (1 : Int) < (N : Int) + 1 := by rw [← hN, List.length_cons]; omega
    have hg0 := HG0.out
    have CC := Lib.hid (HC.out b d t (u :: r') r2 R W1 hi HR.out HP1.out (HENV.out.ext HE1.out) HLOW.out)
    unfold tokC at CC
    have q40 : ((mk [40]).toList == [40]) = true := by rw [toks_eq]; rfl
    clear h hl hN d0 d1 d2 hcap hu hi
    go_wp2_with (first | ((with_reducible refine wpl_guard (isLoad 61) ?_ ?_); (· rfl); refine wpl_load (t := ?_) (cs := ?_) (fr := ?_) rfl 61 _ rfl rfl ?_ Tryd.underlying61 rfl ?_ ?_; rotate_left 3; (· (first | (with_reducible assumption) | (simp (disch := (first | omega | (simp only [World.size_alloc, World.size_setCell, World.size_drew, size_setRow]; done) | (simp only [World.size_alloc, World.size_setCell, World.size_drew, size_setRow]; omega))) only [hq_at, hq_past, hq_drew, hq_drewN, hq_cell, hq_row, hq_same, rowOf_cells, Option.map_some, *]; rfl) | (simp (disch := (first | omega | (simp only [World.size_alloc, World.size_setCell, World.size_drew, size_setRow]; done) | (simp only [World.size_alloc, World.size_setCell, World.size_drew, size_setRow]; omega))) only [hq_at, hq_past, hq_drew, hq_drewN, hq_cell, hq_row, hq_same, rowOf_cells, Option.map_some, *]))); (· kernel_rfl); (try dsimp only [Act.put, List.setIfInBounds_toArray, List.set_cons_zero, List.set_cons_succ])))
    refine CC.out.mono ?_
    rintro e w2 (⟨x, ts', f, rfl, rfl, hRep, hP2, hX2⟩ | ⟨c, p, rfl, rfl, hX2⟩)
    case inr => exact ⟨rfl, .inr ⟨c, p, rfl, rfl, (ExtX.of_ext HE1.out).trans hX2⟩⟩
    have HRep := Lib.hid hRep
    have HP2 := Lib.hid hP2
    have HX2 := Lib.hid hX2
    have hgR : w2.heap[W.heap.size + 1]? = some (.cells zN 33 (0, 0)) := hX2.blk HG1.out (by have := HB.out; omega)
    clear hRep hP2 hX2 hg0 d3 d4 c0
    unfold zN at hgR
    unfold Fl.val
    go_wp2_with (first | ((with_reducible refine wpl_guard (isStore 33) ?_ ?_); (· rfl); refine wpl_store (t := ?_) (old := ?_) (w' := ?_) rfl 33 _ _ rfl rfl rfl ?_ ?_ ?_ ?_ ?_ ?_; rotate_left 2; (· (first | (with_reducible assumption) | (simp (disch := (first | omega | (simp only [World.size_alloc, World.size_setCell, World.size_drew, size_setRow]; done) | (simp only [World.size_alloc, World.size_setCell, World.size_drew, size_setRow]; omega))) only [hq_at, hq_past, hq_drew, hq_drewN, hq_cell, hq_row, hq_same, rowOf_cells, Option.map_some, *]; rfl) | (simp (disch := (first | omega | (simp only [World.size_alloc, World.size_setCell, World.size_drew, size_setRow]; done) | (simp only [World.size_alloc, World.size_setCell, World.size_drew, size_setRow]; omega))) only [hq_at, hq_past, hq_drew, hq_drewN, hq_cell, hq_row, hq_same, rowOf_cells, Option.map_some, *]))); (· kernel_rfl); (· rfl); (· rfl); rotate_left 1; (· (first | (simp (disch := (first | omega | (simp only [World.size_alloc, World.size_setCell, World.size_drew, size_setRow]; done) | (simp only [World.size_alloc, World.size_setCell, World.size_drew, size_setRow]; omega))) only [setRow_at, setRow_past, setRow_drew]; rfl) | rfl))))
    exact par_end rfl HB.out (Nat.le_succ _) ((ExtX.of_ext HE1.out).trans HX2.out) HP2.out hgR (HRep.out.imp' (fun k hk _ => by have := HSZ.out; omega)) rfl rfl rfl
  | none =>
    have hRR : R = atomP E sh t r := by
      have := HR.out
      rw [wordF, hi] at this
      simp only [Option.some.injEq] at this
      exact this.symm
    subst hRR
    clear HR HC
    go_cut [32] (fun s32 wx => s32 = .bool false ∧ wx = W1)
    case first =>
      cases r with
      | nil =>
        obtain rfl : N = 0 := by rw [← hN]; rfl
        clear h hl hN d0 d1 d2 hcap hi
        go_wp2_with fail
        go_meet
        case rel => exact ⟨rfl, rfl⟩
      | cons u r' =>
        obtain ⟨d3, d4⟩ := h.second
        have hN1 : (1 : Int) < (N : Int) + 1 := by rw [← hN, List.length_cons]; omega
        by_cases hu : u.k = 4
        · rw [hu] at d3
          have hus : u.s ≠ [40] := by
            intro e
            simp [isS, hu, e] at hi
          have q1 := toks_ne hus
          have q2 := toks_nb hus
          clear h hl hN d0 d1 d2 hcap hi hu hus
          go_wp2_with fail
          go_meet
          case rel => exact ⟨rfl, rfl⟩
        · have hkq : ((u.k : Int) == 4) = false := by rw [beq_eq_false_iff_ne]; omega
          have hkq' : ¬ ((u.k : Int) = 4) := by omega
          clear h hl hN d0 d1 d2 d4 hcap hi hu
          go_wp2_with fail
          go_meet
          case rel => exact ⟨rfl, rfl⟩
    case rest =>
    obtain ⟨rfl, rfl⟩ := hcut
    have f0 : wc.frozen? ⟨b, 0, none⟩ = false := frozen_of_row wc b 0 _ _ h.blk
    have HLT := Lib.hid h.lt
    have hr := Ext.refl wc
    have HSH := Lib.hid HLIM.out.2.2.1
    have HTS := Lib.hid (HLIM.out.2.1 t (by simp)).1
    have e1 := addr_e t.s sh wc HTS.out HSH.out (HENV.out.ext HE1.out).1.2
    have hg0 := HG0.out
    have hc0 := cell_of_row wc W.heap.size 1 _ _ _ hg0
    have hc1 := h.cells.2.1
    simp only [List.getElem?_toArray, List.getElem?_cons_zero, List.getElem?_cons_succ] at hc0
    have z0 := ext_cell h.lt c0
    have z1 := ext_cell h.lt hc1
    have z2 := ext_cell (blk_lt hg0) hc0
    clear h hl hN hcap hg0 d0 d1 d2 hi
    go_upto_region 3 with (fail)
    clear c0 hc0 hc1
    cases hrf : refF t.s sh with
    | some rb =>
      obtain ⟨s', c', q', x', y', hb', rfl, -⟩ := refF_of HSH.out hrf
      have hpv : parV t.s sh = .tuple #[.agg #[.int .i64 (s' : Int), .int .i64 (c' : Int), .int .i64 (q' : Int), .bool x', .bool y'], .bool true] := by rw [parV, hrf]; rfl
      rw [hpv] at e1
      have HRR : Hid (atomP E sh t r = areaP E ⟨(s' : Int), (c' : Int), (q' : Int), x', y'⟩ r) := Lib.hid (by rw [atomP, hrf])
      have HB3 := Lib.hid hb'
      clear hpv hrf hb'
      refine region_store wc [5] [] (Ext.refl wc) ?apt (fun x hx => by cases hx) (by simp [tmps]) (by kernel_rfl) (by kernel_rfl) rfl (fun K hK => ?_)
      case apt =>
        refine ⟨fun d hd x hx => ?_, fun d hd d' hd' hne => ?_⟩
        · simp only [List.mem_cons, List.not_mem_nil, or_false] at hd
          subst hd
          cases hx
        · simp only [List.mem_cons, List.not_mem_nil, or_false] at hd hd'
          exact absurd (hd.trans hd'.symm) hne
      repeat (first | (refine sequ_skip (by rfl) (fun ρ => by rfl) ?_; (try simp only [Act.put, List.setIfInBounds_toArray, List.set_cons_zero, List.set_cons_succ])) | (refine sequ_pure (v := ?_) (by rfl) (fun ρ => by rfl) (fun ρ w hE hF => ?_) ?_; rotate_left 1; (· ((try simp only [fill, Act.put, List.setIfInBounds_toArray, List.set_cons_zero, List.set_cons_succ]); go_simp; try with_reducible rfl)); (try simp only [Act.put, List.setIfInBounds_toArray, List.set_cons_zero, List.set_cons_succ])) | (refine sequ_call0 (v := ?_) (f := ?_) (args := ?_) (by rfl) (fun ρ => by rfl) (fun ρ w => ?_) (fun w hE => ?_) ?_; rotate_left 3; (· ((try simp only [fill, Act.put, List.setIfInBounds_toArray, List.set_cons_zero, List.set_cons_succ]); go_simp; constructor <;> with_reducible rfl)); (· (with_reducible exact CallE.call (by assumption) hE)); (try simp only [Act.put, List.setIfInBounds_toArray, List.set_cons_zero, List.set_cons_succ])))
      (refine sequ_own 30 (#[.int .i64 0, .int .i64 0, .int .i64 0, .bool false, .bool false]) rfl (by decide) (by rfl) (fun ρ => by rfl) (fun ρ w hE hF => ?_) ?_; (· ((try simp only [fill, Act.put, List.setIfInBounds_toArray, List.set_cons_zero, List.set_cons_succ]); go_simp; try rfl)); (try simp only [Act.put, List.setIfInBounds_toArray, List.set_cons_zero, List.set_cons_succ]))
      (refine sequ_store (cells := #[.int .i64 (s' : Int), .int .i64 (c' : Int), .int .i64 (q' : Int), .bool x', .bool y']) rfl rfl rfl (by decide) (.head _) 11 rfl (by kernel_rfl) (fun ρ => by (try simp only [fill, Act.put, List.setIfInBounds_toArray, List.set_cons_zero, List.set_cons_succ]); rfl) (by kernel_rfl) rfl rfl ?_; simp only [upd, Nat.reduceEqDiff, if_true, if_false])
      repeat (first | (refine sequ_skip (by rfl) (fun ρ => by rfl) ?_; (try simp only [Act.put, List.setIfInBounds_toArray, List.set_cons_zero, List.set_cons_succ])) | (refine sequ_pure (v := ?_) (by rfl) (fun ρ => by rfl) (fun ρ w hE hF => ?_) ?_; rotate_left 1; (· ((try simp only [fill, Act.put, List.setIfInBounds_toArray, List.set_cons_zero, List.set_cons_succ]); go_simp; try with_reducible rfl)); (try simp only [Act.put, List.setIfInBounds_toArray, List.set_cons_zero, List.set_cons_succ])) | (refine sequ_call0 (v := ?_) (f := ?_) (args := ?_) (by rfl) (fun ρ => by rfl) (fun ρ w => ?_) (fun w hE => ?_) ?_; rotate_left 3; (· ((try simp only [fill, Act.put, List.setIfInBounds_toArray, List.set_cons_zero, List.set_cons_succ]); go_simp; constructor <;> with_reducible rfl)); (· (with_reducible exact CallE.call (by assumption) hE)); (try simp only [Act.put, List.setIfInBounds_toArray, List.set_cons_zero, List.set_cons_succ])))
      refine sequ_done (fun ρ wN hEN hFN => ?_); (try simp only [fill, Act.put, List.setIfInBounds_toArray, List.set_cons_zero, List.set_cons_succ]); refine (show K _ _ from hK.out _ _ ?_); clear hK K
      obtain ⟨g5, hp5, hl5, hG5⟩ := hFN _ (.head _)
      simp only at hp5
      rw [hp5]
      obtain ⟨W5, hWN⟩ : ∃ W5, wN = W5 := ⟨_, rfl⟩
      rw [hWN] at hEN hG5 ⊢
      have HE5 := Lib.hid hEN
      have HG5 := Lib.hid hG5
      have HP5 := Lib.hid (HP1.out.ext hEN)
      have HL5 := Lib.hid hl5
      have HX05 := Lib.hid (ExtX.of_ext (b := b) (HE1.out.trans hEN))
      have c0 := z0 W5 hEN
      have f0' := ext_frozen HLT.out f0 W5 hEN
      have hgt := hEN.blk HG0.out
      clear hEN hG5 hl5 hWN hFN hp5 e1 z0 z1 z2 f0 hr
      go_upto_region 6 with (first | fail)
      obtain ⟨p', hp'⟩ : ∃ p', (if cap = 1 then (some ⟨g, o, none⟩ : Option Addr) else some ⟨g, o + 3, none⟩) = p' := ⟨_, rfl⟩
      rw [hp']
      obtain ⟨W6, hW6⟩ : ∃ W6, W5.setCell ⟨b, 0, none⟩ (.slice p' N (cap - 1)) = W6 := ⟨_, rfl⟩
      have HP6 : Hid (PAt b sh E d r W6) := Lib.hid (by
        rw [← hW6]
        refine PAt.taken (HPS.out.ext HE5.out) HN.out ?_ ?_
        · intro h0
          have := HCAP.out
          rw [← hp', if_neg (by omega)]
        · have := HCAP.out
          omega)
      have HX6 : Hid (ExtX b W5 W6) := Lib.hid (by rw [← hW6]; exact set_ext _ _)
      rw [hW6]
      clear hW6 hp' c0 f0'
      have HX06 := Lib.hid (HX05.out.trans HX6.out)
      have hg6 := HX6.out.blk hgt (by have := HB.out; omega)
      have k6 := cell_of_row W6 W.heap.size 1 _ _ _ hg6
      simp only [List.getElem?_toArray, List.getElem?_cons_zero, List.getElem?_cons_succ] at k6
      have h65 := HX6.out.blk HG5.out (by have := HL5.out; have := HLT.out; omega)
      have CA := Lib.hid (area_any b sh E d s' r c' q' x' y' W6 HP6.out (HENV.out.extX HLOW.out HX06.out) HLOW.out HB3.out.1)
      clear k6 hgt hg6
      go_wp2_with (first | ((with_reducible refine wpl_guard (isLoad 30) ?_ ?_); (· rfl); refine wpl_load (t := ?_) (cs := ?_) (fr := ?_) rfl 30 _ rfl rfl ?_ Tryd.underlying30 rfl ?_ ?_; rotate_left 3; (· (first | (with_reducible assumption) | (simp (disch := (first | omega | (simp only [World.size_alloc, World.size_setCell, World.size_drew, size_setRow]; done) | (simp only [World.size_alloc, World.size_setCell, World.size_drew, size_setRow]; omega))) only [hq_at, hq_past, hq_drew, hq_drewN, hq_cell, hq_row, hq_same, rowOf_cells, Option.map_some, *]; rfl) | (simp (disch := (first | omega | (simp only [World.size_alloc, World.size_setCell, World.size_drew, size_setRow]; done) | (simp only [World.size_alloc, World.size_setCell, World.size_drew, size_setRow]; omega))) only [hq_at, hq_past, hq_drew, hq_drewN, hq_cell, hq_row, hq_same, rowOf_cells, Option.map_some, *]))); (· kernel_rfl); (try dsimp only [Act.put, List.setIfInBounds_toArray, List.set_cons_zero, List.set_cons_succ])))
      refine CA.out.mono ?_
      rintro e w7 (⟨x, ts', f, hRa, rfl, hRep, hP7, hX7⟩ | ⟨c, p, hRa, rfl, hX7⟩)
      case inr => exact ⟨rfl, .inr ⟨c, p, by rw [HRR.out, hRa], rfl, HX06.out.trans hX7⟩⟩
      have HRep := Lib.hid hRep
      have HP7 := Lib.hid hP7
      have HX7 := Lib.hid hX7
      have HRa := Lib.hid hRa
      have hgR : w7.heap[W.heap.size + 1]? = some (.cells zN 33 (0, 0)) := hX7.blk (HX6.out.blk (HE5.out.blk HG1.out) (by have := HB.out; omega)) (by have := HB.out; omega)
      clear hRep hP7 hX7 hRa h65
      unfold zN at hgR
      unfold Fl.val
      go_wp2_with (first | ((with_reducible refine wpl_guard (isStore 33) ?_ ?_); (· rfl); refine wpl_store (t := ?_) (old := ?_) (w' := ?_) rfl 33 _ _ rfl rfl rfl ?_ ?_ ?_ ?_ ?_ ?_; rotate_left 2; (· (first | (with_reducible assumption) | (simp (disch := (first | omega | (simp only [World.size_alloc, World.size_setCell, World.size_drew, size_setRow]; done) | (simp only [World.size_alloc, World.size_setCell, World.size_drew, size_setRow]; omega))) only [hq_at, hq_past, hq_drew, hq_drewN, hq_cell, hq_row, hq_same, rowOf_cells, Option.map_some, *]; rfl) | (simp (disch := (first | omega | (simp only [World.size_alloc, World.size_setCell, World.size_drew, size_setRow]; done) | (simp only [World.size_alloc, World.size_setCell, World.size_drew, size_setRow]; omega))) only [hq_at, hq_past, hq_drew, hq_drewN, hq_cell, hq_row, hq_same, rowOf_cells, Option.map_some, *]))); (· kernel_rfl); (· rfl); (· rfl); rotate_left 1; (· (first | (simp (disch := (first | omega | (simp only [World.size_alloc, World.size_setCell, World.size_drew, size_setRow]; done) | (simp only [World.size_alloc, World.size_setCell, World.size_drew, size_setRow]; omega))) only [setRow_at, setRow_past, setRow_drew]; rfl) | rfl))))
      exact par_end rfl HB.out (Nat.le_succ _) (HX06.out.trans HX7.out) HP7.out hgR (HRep.out.imp' (fun k hk _ => by have := HSZ.out; have := HX6.out.size; have := HE5.out.size; omega)) (by rw [HRR.out, HRa.out]) rfl rfl
    | none =>
      have hpv : parV t.s sh = .tuple #[.agg #[.int .i64 0, .int .i64 0, .int .i64 0, .bool false, .bool false], .bool false] := by rw [parV, hrf]; rfl
      rw [hpv] at e1
      have HRF := Lib.hid hrf
      clear hpv hrf
      refine region_store wc [5] [] (Ext.refl wc) ?apt (fun x hx => by cases hx) (by simp [tmps]) (by kernel_rfl) (by kernel_rfl) rfl (fun K hK => ?_)
      case apt =>
        refine ⟨fun d hd x hx => ?_, fun d hd d' hd' hne => ?_⟩
        · simp only [List.mem_cons, List.not_mem_nil, or_false] at hd
          subst hd
          cases hx
        · simp only [List.mem_cons, List.not_mem_nil, or_false] at hd hd'
          exact absurd (hd.trans hd'.symm) hne
      repeat (first | (refine sequ_skip (by rfl) (fun ρ => by rfl) ?_; (try simp only [Act.put, List.setIfInBounds_toArray, List.set_cons_zero, List.set_cons_succ])) | (refine sequ_pure (v := ?_) (by rfl) (fun ρ => by rfl) (fun ρ w hE hF => ?_) ?_; rotate_left 1; (· ((try simp only [fill, Act.put, List.setIfInBounds_toArray, List.set_cons_zero, List.set_cons_succ]); go_simp; try with_reducible rfl)); (try simp only [Act.put, List.setIfInBounds_toArray, List.set_cons_zero, List.set_cons_succ])) | (refine sequ_call0 (v := ?_) (f := ?_) (args := ?_) (by rfl) (fun ρ => by rfl) (fun ρ w => ?_) (fun w hE => ?_) ?_; rotate_left 3; (· ((try simp only [fill, Act.put, List.setIfInBounds_toArray, List.set_cons_zero, List.set_cons_succ]); go_simp; constructor <;> with_reducible rfl)); (· (with_reducible exact CallE.call (by assumption) hE)); (try simp only [Act.put, List.setIfInBounds_toArray, List.set_cons_zero, List.set_cons_succ])))
      (refine sequ_own 30 (#[.int .i64 0, .int .i64 0, .int .i64 0, .bool false, .bool false]) rfl (by decide) (by rfl) (fun ρ => by rfl) (fun ρ w hE hF => ?_) ?_; (· ((try simp only [fill, Act.put, List.setIfInBounds_toArray, List.set_cons_zero, List.set_cons_succ]); go_simp; try rfl)); (try simp only [Act.put, List.setIfInBounds_toArray, List.set_cons_zero, List.set_cons_succ]))
      (refine sequ_store (cells := #[.int .i64 0, .int .i64 0, .int .i64 0, .bool false, .bool false]) rfl rfl rfl (by decide) (.head _) 11 rfl (by kernel_rfl) (fun ρ => by (try simp only [fill, Act.put, List.setIfInBounds_toArray, List.set_cons_zero, List.set_cons_succ]); rfl) (by kernel_rfl) rfl rfl ?_; simp only [upd, Nat.reduceEqDiff, if_true, if_false])
      repeat (first | (refine sequ_skip (by rfl) (fun ρ => by rfl) ?_; (try simp only [Act.put, List.setIfInBounds_toArray, List.set_cons_zero, List.set_cons_succ])) | (refine sequ_pure (v := ?_) (by rfl) (fun ρ => by rfl) (fun ρ w hE hF => ?_) ?_; rotate_left 1; (· ((try simp only [fill, Act.put, List.setIfInBounds_toArray, List.set_cons_zero, List.set_cons_succ]); go_simp; try with_reducible rfl)); (try simp only [Act.put, List.setIfInBounds_toArray, List.set_cons_zero, List.set_cons_succ])) | (refine sequ_call0 (v := ?_) (f := ?_) (args := ?_) (by rfl) (fun ρ => by rfl) (fun ρ w => ?_) (fun w hE => ?_) ?_; rotate_left 3; (· ((try simp only [fill, Act.put, List.setIfInBounds_toArray, List.set_cons_zero, List.set_cons_succ]); go_simp; constructor <;> with_reducible rfl)); (· (with_reducible exact CallE.call (by assumption) hE)); (try simp only [Act.put, List.setIfInBounds_toArray, List.set_cons_zero, List.set_cons_succ])))
      refine sequ_done (fun ρ wN hEN hFN => ?_); (try simp only [fill, Act.put, List.setIfInBounds_toArray, List.set_cons_zero, List.set_cons_succ]); refine (show K _ _ from hK.out _ _ ?_); clear hK K
      obtain ⟨g5, hp5, hl5, hG5⟩ := hFN _ (.head _)
      simp only at hp5
      rw [hp5]
      obtain ⟨W5, hWN⟩ : ∃ W5, wN = W5 := ⟨_, rfl⟩
      rw [hWN] at hEN hG5 ⊢
      have HE5 := Lib.hid hEN
      have HG5 := Lib.hid hG5
      have HP5 := Lib.hid (HP1.out.ext hEN)
      have HL5 := Lib.hid hl5
      have HX05 := Lib.hid (ExtX.of_ext (b := b) (HE1.out.trans hEN))
      have c0 := z0 W5 hEN
      have f0' := ext_frozen HLT.out f0 W5 hEN
      have hgt := hEN.blk HG0.out
      clear hEN hG5 hl5 hWN hFN hp5 e1 z0 z1 z2 f0 hr
      by_cases hT : t.s = [84, 82, 85, 69]
      · skip
        have HRR : Hid (atomP E sh t r = .ok (litT 3 1 [], r)) := Lib.hid (by rw [atomP, HRF.out]; simp [hT])
        have q1 : ((mk t.s).toList == [84, 82, 85, 69]) = true := by rw [toks_eq, hT]; rfl
        have q1' : (mk t.s).toList = [84, 82, 85, 69] := by rw [toks_eq, hT]
        have q2 : ((mk t.s).toList == [70, 65, 76, 83, 69]) = false := by rw [toks_eq, hT]; rfl
        have hgc := cell_of_row W5 W.heap.size 1 _ _ _ hgt
        simp only [List.getElem?_toArray, List.getElem?_cons_zero, List.getElem?_cons_succ] at hgc
        clear hT
        go_upto_region 9 with (first | fail)
        obtain ⟨p', hp'⟩ : ∃ p', (if cap = 1 then (some ⟨g, o, none⟩ : Option Addr) else some ⟨g, o + 3, none⟩) = p' := ⟨_, rfl⟩
        rw [hp']
        obtain ⟨W6, hW6⟩ : ∃ W6, W5.setCell ⟨b, 0, none⟩ (.slice p' N (cap - 1)) = W6 := ⟨_, rfl⟩
        have HP6 : Hid (PAt b sh E d r W6) := Lib.hid (by
          rw [← hW6]
          refine PAt.taken (HPS.out.ext HE5.out) HN.out ?_ ?_
          · intro h0
            have := HCAP.out
            rw [← hp', if_neg (by omega)]
          · have := HCAP.out
            omega)
        have HX6 : Hid (ExtX b W5 W6) := Lib.hid (by rw [← hW6]; exact set_ext _ _)
        rw [hW6]
        clear hW6 hp' c0 f0' hgc
        have HX06 := Lib.hid (HX05.out.trans HX6.out)
        have hg6 := HX6.out.blk hgt (by have := HB.out; omega)
        have k6 := cell_of_row W6 W.heap.size 1 _ _ _ hg6
        simp only [List.getElem?_toArray, List.getElem?_cons_zero, List.getElem?_cons_succ] at k6
        go_wp2_with fail
        refine (vbool_any true _).mono ?_
        rintro e w7 ⟨rfl, hE7⟩
        go_wp2_with fail
        refine (tval_any 3 1 ⟨#[]⟩ _).mono ?_
        rintro e w8 ⟨rfl, hE8⟩
        have HE7 := Lib.hid (hE7.trans hE8)
        have HX07 := Lib.hid (HX06.out.trans (.of_ext HE7.out))
        have hgR : w8.heap[W.heap.size + 1]? = some (.cells zN 33 (0, 0)) := HE7.out.blk (HX6.out.blk (HE5.out.blk HG1.out) (by have := HB.out; omega))
        clear hg6 k6 hgt q1 q1' q2 hE7 hE8
        unfold zN at hgR
        unfold Fl.val
        go_wp2_with (first | ((with_reducible refine wpl_guard (isStore 33) ?_ ?_); (· rfl); refine wpl_store (t := ?_) (old := ?_) (w' := ?_) rfl 33 _ _ rfl rfl rfl ?_ ?_ ?_ ?_ ?_ ?_; rotate_left 2; (· (first | (with_reducible assumption) | (simp (disch := (first | omega | (simp only [World.size_alloc, World.size_setCell, World.size_drew, size_setRow]; done) | (simp only [World.size_alloc, World.size_setCell, World.size_drew, size_setRow]; omega))) only [hq_at, hq_past, hq_drew, hq_drewN, hq_cell, hq_row, hq_same, rowOf_cells, Option.map_some, *]; rfl) | (simp (disch := (first | omega | (simp only [World.size_alloc, World.size_setCell, World.size_drew, size_setRow]; done) | (simp only [World.size_alloc, World.size_setCell, World.size_drew, size_setRow]; omega))) only [hq_at, hq_past, hq_drew, hq_drewN, hq_cell, hq_row, hq_same, rowOf_cells, Option.map_some, *]))); (· kernel_rfl); (· rfl); (· rfl); rotate_left 1; (· (first | (simp (disch := (first | omega | (simp only [World.size_alloc, World.size_setCell, World.size_drew, size_setRow]; done) | (simp only [World.size_alloc, World.size_setCell, World.size_drew, size_setRow]; omega))) only [setRow_at, setRow_past, setRow_drew]; rfl) | rfl))))
        exact par_end rfl HB.out (Nat.le_succ _) HX07.out (HP6.out.ext HE7.out) hgR (rep_lit ⟨by omega, by omega⟩ (by show 0 ≤ _; omega)) HRR.out rfl rfl
      have hT1 := hT
      by_cases hT : t.s = [70, 65, 76, 83, 69]
      · skip
        have HRR : Hid (atomP E sh t r = .ok (litT 3 0 [], r)) := Lib.hid (by rw [atomP, HRF.out]; simp [hT])
        have q1 : ((mk t.s).toList == [84, 82, 85, 69]) = false := by rw [toks_eq, hT]; rfl
        have q1' : ¬ (mk t.s).toList = [84, 82, 85, 69] := by rw [toks_eq, hT]; decide
        have q2 : ((mk t.s).toList == [70, 65, 76, 83, 69]) = true := by rw [toks_eq, hT]; rfl
        have hgc := cell_of_row W5 W.heap.size 1 _ _ _ hgt
        simp only [List.getElem?_toArray, List.getElem?_cons_zero, List.getElem?_cons_succ] at hgc
        clear hT hT1
        go_upto_region 9 with (first | fail)
        obtain ⟨p', hp'⟩ : ∃ p', (if cap = 1 then (some ⟨g, o, none⟩ : Option Addr) else some ⟨g, o + 3, none⟩) = p' := ⟨_, rfl⟩
        rw [hp']
        obtain ⟨W6, hW6⟩ : ∃ W6, W5.setCell ⟨b, 0, none⟩ (.slice p' N (cap - 1)) = W6 := ⟨_, rfl⟩
        have HP6 : Hid (PAt b sh E d r W6) := Lib.hid (by
          rw [← hW6]
          refine PAt.taken (HPS.out.ext HE5.out) HN.out ?_ ?_
          · intro h0
            have := HCAP.out
            rw [← hp', if_neg (by omega)]
          · have := HCAP.out
            omega)
        have HX6 : Hid (ExtX b W5 W6) := Lib.hid (by rw [← hW6]; exact set_ext _ _)
        rw [hW6]
        clear hW6 hp' c0 f0' hgc
        have HX06 := Lib.hid (HX05.out.trans HX6.out)
        have hg6 := HX6.out.blk hgt (by have := HB.out; omega)
        have k6 := cell_of_row W6 W.heap.size 1 _ _ _ hg6
        simp only [List.getElem?_toArray, List.getElem?_cons_zero, List.getElem?_cons_succ] at k6
        go_wp2_with fail
        refine (vbool_any false _).mono ?_
        rintro e w7 ⟨rfl, hE7⟩
        go_wp2_with fail
        refine (tval_any 3 0 ⟨#[]⟩ _).mono ?_
        rintro e w8 ⟨rfl, hE8⟩
        have HE7 := Lib.hid (hE7.trans hE8)
        have HX07 := Lib.hid (HX06.out.trans (.of_ext HE7.out))
        have hgR : w8.heap[W.heap.size + 1]? = some (.cells zN 33 (0, 0)) := HE7.out.blk (HX6.out.blk (HE5.out.blk HG1.out) (by have := HB.out; omega))
        clear hg6 k6 hgt q1 q1' q2 hE7 hE8
        unfold zN at hgR
        unfold Fl.val
        go_wp2_with (first | ((with_reducible refine wpl_guard (isStore 33) ?_ ?_); (· rfl); refine wpl_store (t := ?_) (old := ?_) (w' := ?_) rfl 33 _ _ rfl rfl rfl ?_ ?_ ?_ ?_ ?_ ?_; rotate_left 2; (· (first | (with_reducible assumption) | (simp (disch := (first | omega | (simp only [World.size_alloc, World.size_setCell, World.size_drew, size_setRow]; done) | (simp only [World.size_alloc, World.size_setCell, World.size_drew, size_setRow]; omega))) only [hq_at, hq_past, hq_drew, hq_drewN, hq_cell, hq_row, hq_same, rowOf_cells, Option.map_some, *]; rfl) | (simp (disch := (first | omega | (simp only [World.size_alloc, World.size_setCell, World.size_drew, size_setRow]; done) | (simp only [World.size_alloc, World.size_setCell, World.size_drew, size_setRow]; omega))) only [hq_at, hq_past, hq_drew, hq_drewN, hq_cell, hq_row, hq_same, rowOf_cells, Option.map_some, *]))); (· kernel_rfl); (· rfl); (· rfl); rotate_left 1; (· (first | (simp (disch := (first | omega | (simp only [World.size_alloc, World.size_setCell, World.size_drew, size_setRow]; done) | (simp only [World.size_alloc, World.size_setCell, World.size_drew, size_setRow]; omega))) only [setRow_at, setRow_past, setRow_drew]; rfl) | rfl))))
        exact par_end rfl HB.out (Nat.le_succ _) HX07.out (HP6.out.ext HE7.out) hgR (rep_lit ⟨by omega, by omega⟩ (by show 0 ≤ _; omega)) HRR.out rfl rfl
      have q1 := toks_ne hT1
      have q2 := toks_nb hT1
      have q3 := toks_ne hT
      have q4 := toks_nb hT
      have hgc := cell_of_row W5 W.heap.size 1 _ _ _ hgt
      simp only [List.getElem?_toArray, List.getElem?_cons_zero, List.getElem?_cons_succ] at hgc
      have CN := Lib.hid (isname_at t.s W5 HTS.out ((HENV.out.extX HLOW.out HX05.out).1))
      have HF5 := Lib.hid (fail_at b sh E d (t :: r) 5 W5 HP5.out)
      have HNT := Lib.hid (And.intro hT1 hT)
      clear hT hT1
      go_wp2_with fail
      refine CN.out.mono ?_
      rintro e w6 ⟨rfl, hE6⟩
      have HE56 := Lib.hid (HE5.out.trans hE6)
      have HX056 := Lib.hid (HX05.out.trans (.of_ext hE6))
      have hgt6 := hE6.blk hgt
      have c06 := HE56.out
      have hc06 := ext_cell HLT.out HC0.out w6 HE56.out
      have hf06 : w6.frozen? ⟨b, 0, none⟩ = false := by rw [← f0']; exact (ext_frozen (Nat.lt_of_lt_of_le HLT.out HE5.out.size) rfl w6 hE6)
      have HF6 := Lib.hid (fail_at b sh E d (t :: r) 5 w6 (HP5.out.ext hE6))
      clear hE6 hgt c06 c0 f0' hgc q1 q2 q3 q4 HF5 CN
      cases hnf : nameF t.s
      · have HRR : Hid (atomP E sh t r = .error (5, posF E (t :: r))) := Lib.hid (by rw [atomP, HRF.out]; simp [HNT.out.1, HNT.out.2, hnf, posF])
        clear hnf
        go_wp2_with fail
        refine HF6.out.mono ?_
        rintro e w7 ⟨rfl, rfl⟩
        exact ⟨rfl, .inr ⟨5, _, HRR.out, rfl, HX056.out⟩⟩
      · have HRR : Hid (atomP E sh t r = .ok (wordT t.s, r)) := Lib.hid (by rw [atomP, HRF.out]; simp [HNT.out.1, HNT.out.2, hnf])
        clear hnf
        go_upto_region 13 with (first | fail)
        obtain ⟨p', hp'⟩ : ∃ p', (if cap = 1 then (some ⟨g, o, none⟩ : Option Addr) else some ⟨g, o + 3, none⟩) = p' := ⟨_, rfl⟩
        rw [hp']
        obtain ⟨W6, hW6⟩ : ∃ W6, w6.setCell ⟨b, 0, none⟩ (.slice p' N (cap - 1)) = W6 := ⟨_, rfl⟩
        have HP6 : Hid (PAt b sh E d r W6) := Lib.hid (by
          rw [← hW6]
          refine PAt.taken (HPS.out.ext HE56.out) HN.out ?_ ?_
          · intro h0
            have := HCAP.out
            rw [← hp', if_neg (by omega)]
          · have := HCAP.out
            omega)
        have HX6 : Hid (ExtX b w6 W6) := Lib.hid (by rw [← hW6]; exact set_ext _ _)
        rw [hW6]
        clear hW6 hp' hc06 hf06
        have HX06 := Lib.hid (HX056.out.trans HX6.out)
        have hg6 := HX6.out.blk hgt6 (by have := HB.out; omega)
        have k6 := cell_of_row W6 W.heap.size 1 _ _ _ hg6
        simp only [List.getElem?_toArray, List.getElem?_cons_zero, List.getElem?_cons_succ] at k6
        have hgR : W6.heap[W.heap.size + 1]? = some (.cells zN 33 (0, 0)) := HX6.out.blk (HE56.out.blk HG1.out) (by have := HB.out; omega)
        unfold zN at hgR
        clear hg6 hgt6
        go_wp2_with (first | ((with_reducible refine wpl_guard (isBuild 33) ?_ ?_); (· rfl); refine wpl_build rfl 33 _ rfl (built_word _) ?_ ?_; (· rfl)) | ((with_reducible refine wpl_guard (isStore 33) ?_ ?_); (· rfl); refine wpl_store (t := ?_) (old := ?_) (w' := ?_) rfl 33 _ _ rfl rfl rfl ?_ ?_ ?_ ?_ ?_ ?_; rotate_left 2; (· (first | (with_reducible assumption) | (simp (disch := (first | omega | (simp only [World.size_alloc, World.size_setCell, World.size_drew, size_setRow]; done) | (simp only [World.size_alloc, World.size_setCell, World.size_drew, size_setRow]; omega))) only [hq_at, hq_past, hq_drew, hq_drewN, hq_cell, hq_row, hq_same, rowOf_cells, Option.map_some, *]; rfl) | (simp (disch := (first | omega | (simp only [World.size_alloc, World.size_setCell, World.size_drew, size_setRow]; done) | (simp only [World.size_alloc, World.size_setCell, World.size_drew, size_setRow]; omega))) only [hq_at, hq_past, hq_drew, hq_drewN, hq_cell, hq_row, hq_same, rowOf_cells, Option.map_some, *]))); (· kernel_rfl); (· rfl); (· rfl); rotate_left 1; (· (first | (simp (disch := (first | omega | (simp only [World.size_alloc, World.size_setCell, World.size_drew, size_setRow]; done) | (simp only [World.size_alloc, World.size_setCell, World.size_drew, size_setRow]; omega))) only [setRow_at, setRow_past, setRow_drew]; rfl) | rfl))))
        exact par_end (f := wordL t.s) rfl HB.out (Nat.le_succ _) HX06.out HP6.out hgR (rep_word HTS.out) HRR.out rfl rfl
theorem pct_len : ∀ (ts : List Tok) (x : Tr), (pctF x ts).2.length ≤ ts.length
  | [], x => Nat.le_refl _
  | t :: r, x => by
    rw [pctF]
    split
    · exact Nat.le_trans (pct_len r _) (Nat.le_succ _)
    · exact Nat.le_refl _
theorem op_len {lvl : Nat} {ts r : List Tok} {k : Nat} (h : opF lvl ts = some (k, r)) : ts.length = r.length + 1 := by
  cases ts with
  | nil => cases h
  | cons t l =>
    simp only [opF] at h
    split at h
    · injection h with h; injection h with _ h; rw [h]; rfl
    · cases h
theorem area_len {E : Nat} {a : Rf} {ts r : List Tok} {x : Tr} (h : areaP E a ts = .ok (x, r)) : r.length ≤ ts.length := by
  unfold areaP at h
  cases hi : isS [58] ts with
  | none => rw [hi] at h; injection h with h; injection h with _ h; rw [h]; exact Nat.le_refl _
  | some r1 =>
    rw [hi] at h
    have := isS_len hi
    cases r1 with
    | nil => cases h
    | cons t r2 =>
      simp only at h
      split at h
      · cases h
      · cases hr : refF t.s a.s.toNat with
        | none => rw [hr] at h; cases h
        | some b =>
          rw [hr] at h
          simp only at h
          split at h
          · injection h with h; injection h with _ h; rw [← h]; simp only [List.length_cons] at this; omega
          · cases h
theorem atom_len {E sh : Nat} {t : Tok} {ts r : List Tok} {x : Tr} (h : atomP E sh t ts = .ok (x, r)) : r.length ≤ ts.length := by
  unfold atomP at h
  split at h
  · exact area_len h
  · split at h
    · injection h with h; injection h with _ h; rw [h]; exact Nat.le_refl _
    · split at h
      · cases h
      · injection h with h; injection h with _ h; rw [h]; exact Nat.le_refl _
theorem simple_len {t : Tok} {ts r : List Tok} {x : Tr} (h : simpleP t ts = .ok (x, r)) : r = ts := by
  unfold simpleP at h
  split at h
  · split at h
    · cases h
    · injection h with h; injection h with _ h; exact h.symm
  · split at h
    · split at h
      · cases h
      · injection h with h; injection h with _ h; exact h.symm
    · injection h with h; injection h with _ h; exact h.symm
theorem end_len {E : Nat} {f : Int} {ar : List Tr} {ts r : List Tok} {x : Tr} (h : endP E f ar ts = .ok (x, r)) : r = ts := by
  unfold endP at h
  split at h
  · injection h with h; injection h with _ h; exact h.symm
  · split at h
    · cases h
    · injection h with h; injection h with _ h; exact h.symm
def shutP (E : Nat) (y : Tr × List Tok) : Except (Nat × Nat) (Tr × List Tok) := match isS [41] y.2 with
  | none => .error (2, posF E y.2)
  | some ts3 => .ok (y.1, ts3)
theorem prim_par {sh E n d : Nat} {ts ts1 : List Tok} {R} (hi : isS [40] ts = some ts1) (h : primF E sh (n + 1) d ts = some R) :
    (d = 64 ∧ R = .error (3, posF E ts1)) ∨ (d ≠ 64 ∧ ∃ R1, exprF E sh n 0 (d + 1) ts1 = some R1 ∧ R = R1.bind (shutP E)) := by
  rw [primF.eq_def] at h
  simp only [hi, beq_iff_eq] at h
  by_cases hd : d = 64
  · rw [if_pos hd] at h
    injection h with h
    exact .inl ⟨hd, h.symm⟩
  · rw [if_neg hd] at h
    refine .inr ⟨hd, ?_⟩
    cases hu : exprF E sh n 0 (d + 1) ts1 with
    | none => rw [hu] at h; cases h
    | some R1 =>
      rw [hu] at h
      rcases R1 with e | ⟨x, ts2⟩
      · injection h with h; exact ⟨_, rfl, h.symm⟩
      · refine ⟨_, rfl, ?_⟩
        simp only at h
        show R = shutP E (x, ts2)
        unfold shutP
        cases hj : isS [41] ts2 with
        | none => rw [hj] at h; injection h with h; exact h.symm
        | some ts3 => rw [hj] at h; injection h with h; exact h.symm
theorem prim_no {sh E n d : Nat} {ts : List Tok} {R} (hi : isS [40] ts = none) (h : primF E sh (n + 1) d ts = some R) :
    (ts = [] ∧ R = .error (2, E)) ∨ ∃ t r, ts = t :: r ∧ ((t.k = 4 ∧ R = .error (2, t.p)) ∨ (t.k = 3 ∧ wordF E sh n d t r = some R) ∨ (t.k ≠ 4 ∧ t.k ≠ 3 ∧ R = simpleP t r)) := by
  rw [primF.eq_def] at h
  simp only [hi, beq_iff_eq] at h
  cases ts with
  | nil => injection h with h; exact .inl ⟨rfl, h.symm⟩
  | cons t r =>
    refine .inr ⟨t, r, rfl, ?_⟩
    simp only at h
    by_cases h4 : t.k = 4
    · rw [if_pos h4] at h; injection h with h; exact .inl ⟨h4, h.symm⟩
    · rw [if_neg h4] at h
      by_cases h3 : t.k = 3
      · rw [if_pos h3] at h; exact .inr (.inl ⟨h3, h⟩)
      · rw [if_neg h3] at h; injection h with h; exact .inr (.inr ⟨h4, h3, h.symm⟩)
structure Used (E sh n : Nat) : Prop where
  expr : ∀ lvl d ts x r, exprF E sh n lvl d ts = some (.ok (x, r)) → r.length < ts.length
  loop : ∀ lvl d x0 ts x r, loopF E sh n lvl d x0 ts = some (.ok (x, r)) → r.length ≤ ts.length
  unary : ∀ d ts x r, unaryF E sh n d ts = some (.ok (x, r)) → r.length < ts.length
  prim : ∀ d ts x r, primF E sh n d ts = some (.ok (x, r)) → r.length < ts.length
  word : ∀ d t ts x r, wordF E sh n d t ts = some (.ok (x, r)) → r.length ≤ ts.length
  args : ∀ d ar ts ar' r, argsF E sh n d ar ts = some (.ok (ar', r)) → r.length < ts.length
theorem used (E sh : Nat) : ∀ n, Used E sh n
  | 0 => ⟨fun _ _ _ _ _ h => by simp [exprF] at h, fun _ _ _ _ _ _ h => by simp [loopF] at h, fun _ _ _ _ h => by simp [unaryF] at h, fun _ _ _ _ h => by simp [primF] at h, fun _ _ _ _ _ h => by simp [wordF] at h, fun _ _ _ _ _ h => by simp [argsF] at h⟩
  | n + 1 => by
    have ih := used E sh n
    refine ⟨fun lvl d ts x r h => ?_, fun lvl d x0 ts x r h => ?_, fun d ts x r h => ?_, fun d ts x r h => ?_, fun d t ts x r h => ?_, fun d ar ts ar' r h => ?_⟩
    · rw [exprF] at h
      split at h
      · exact ih.unary _ _ _ _ h
      · cases hx : exprF E sh n (lvl + 1) d ts with
        | none => rw [hx] at h; cases h
        | some R =>
          rw [hx] at h
          rcases R with e | ⟨y, ts'⟩
          · cases h
          · have h1 := ih.expr _ _ _ _ _ hx
            have h2 := ih.loop _ _ _ _ _ _ h
            omega
    · rw [loopF] at h
      cases ho : opF lvl ts with
      | none => rw [ho] at h; injection h with h; injection h with h; injection h with _ h; rw [h]; exact Nat.le_refl _
      | some q =>
        obtain ⟨op, ts1⟩ := q
        rw [ho] at h
        simp only at h
        have h0 := op_len ho
        cases hx : exprF E sh n (lvl + 1) d ts1 with
        | none => rw [hx] at h; cases h
        | some R =>
          rw [hx] at h
          rcases R with e | ⟨y, ts'⟩
          · cases h
          · have h1 := ih.expr _ _ _ _ _ hx
            have h2 := ih.loop _ _ _ _ _ _ h
            omega
    · cases hi : isS [45] ts with
      | some ts1 =>
        have h0 := isS_len hi
        rcases unary_neg hi h with ⟨-, h1⟩ | ⟨-, R1, h1, h2⟩
        · cases h1
        · rcases R1 with e | ⟨y, ts'⟩
          · cases h2
          · have := ih.unary _ _ _ _ h1
            injection h2 with h2; injection h2 with _ h2
            simp only at h2
            subst h2
            omega
      | none =>
        obtain ⟨R1, h1, h2⟩ := unary_no hi h
        rcases R1 with e | ⟨y, ts'⟩
        · cases h2
        · have := ih.prim _ _ _ _ h1
          injection h2 with h2
          have h3 := pct_len ts' y
          have h4 : r = (pctF y ts').2 := congrArg Prod.snd h2
          rw [← h4] at h3
          omega
    · cases hi : isS [40] ts with
      | some ts1 =>
        have h0 := isS_len hi
        rcases prim_par hi h with ⟨-, h1⟩ | ⟨-, R1, h1, h2⟩
        · cases h1
        · rcases R1 with e | ⟨y, ts'⟩
          · cases h2
          · have h3 := ih.expr _ _ _ _ _ h1
            replace h2 : Except.ok (x, r) = shutP E (y, ts') := h2
            unfold shutP at h2
            cases hj : isS [41] ts' with
            | none => simp only [hj] at h2; cases h2
            | some ts3 =>
              simp only [hj] at h2
              have h4 := isS_len hj
              injection h2 with h2; injection h2 with _ h2
              subst h2
              omega
      | none =>
        rcases prim_no hi h with ⟨-, h1⟩ | ⟨t, l, rfl, ⟨-, h1⟩ | ⟨-, h1⟩ | ⟨-, -, h1⟩⟩
        · cases h1
        · cases h1
        · have := ih.word _ _ _ _ _ h1
          simp only [List.length_cons]; omega
        · have := simple_len h1.symm
          subst this
          simp
    · rw [wordF] at h
      cases hi : isS [40] ts with
      | none => rw [hi] at h; injection h with h; exact atom_len h
      | some r2 =>
        have h0 := isS_len hi
        rw [hi] at h
        simp only at h
        split at h
        · cases h
        · cases hx : argsF E sh n d [] r2 with
          | none => rw [hx] at h; cases h
          | some R =>
            rw [hx] at h
            rcases R with e | ⟨ar, ts'⟩
            · cases h
            · have h1 := ih.args _ _ _ _ _ hx
              injection h with h
              have := end_len h
              subst this
              omega
    · rw [argsF] at h
      cases hi : isS [41] ts with
      | some ts1 =>
        have h0 := isS_len hi
        rw [hi] at h
        injection h with h; injection h with h; injection h with _ h
        subst h
        omega
      | none =>
        rw [hi] at h
        simp only at h
        have key : ∀ ts1, (if ar.isEmpty then some ts else isS [44] ts) = some ts1 → ts1.length ≤ ts.length := by
          intro ts1 hk
          split at hk
          · injection hk with hk; rw [hk]; exact Nat.le_refl _
          · have := isS_len hk; omega
        cases hk : (if ar.isEmpty then some ts else isS [44] ts) with
        | none => rw [hk] at h; cases h
        | some ts1 =>
          have h0 := key ts1 hk
          rw [hk] at h
          simp only at h
          split at h
          · cases h
          · cases hx : exprF E sh n 0 (d + 1) ts1 with
            | none => rw [hx] at h; cases h
            | some R =>
              rw [hx] at h
              rcases R with e | ⟨y, ts'⟩
              · cases h
              · have h1 := ih.expr _ _ _ _ _ hx
                have h2 := ih.args _ _ _ _ _ h
                omega
end Go.Proofs.YtffogjhjgmohiaaDoor
