/-
  law 05: a seed's formula: walk. Conditions: each theorem's own.
-/
import Derived.Test.YtbnebiobahajjaaGreatDoorTreeN
import Derived.Deep.CutBlock
import Derived.Deep.DeepCutAuto
import Derived.Deep.RegionHeld3
namespace Go.Proofs.YtbnebiobahajjaaGreatDoor
open Go.RowKit
set_option linter.unusedVariables false
set_option linter.unusedSimpArgs false

/-- What Formula hands back, called in W, its seed in block b. -/
def ForP (d b : Nat) (W : World) (e : Ending) (w' : World) : Prop := (∃ f t, e = .returned f.val ∧ Rep w' (fun g => W.heap.size ≤ g) t f ∧ FT d t) ∧ ExtX b W w' ∧ SeedAt b w'
def ForS (d : Nat) : Prop := ∀ (b : Nat) (W : World), SeedAt b W → EnvQ W → LowB b → b < W.heap.size →
  Calls Tryz.prog 8 #[.pointer (some ⟨b, 0, none⟩), .int .i64 (d : Int)] W (ForP d b W)
theorem for_end {d b : Nat} {W w : World} {a : Act} {f : Fl} {t : Tr} {old : Array Value} (hb : b < W.heap.size) (hX : ExtX b W w) (hS : SeedAt b w) (hg : w.heap[W.heap.size]? = some (.cells old 33 (0, 0)))
    (hR : Rep w (fun g => W.heap.size < g) t f) (hF : FT d t) (h4 : a.tmps.getD 4 undef = .pointer (some ⟨W.heap.size, 0, none⟩)) (hd : a.defers = []) :
    bodyPost Tryz.prog Tryz.f8 (ForP d b W) Exit.ret a (w.setRow W.heap.size f.cells) := by
  have hg' : (w.setRow W.heap.size f.cells).heap[W.heap.size]? = some (.cells f.cells 33 (0, 0)) := by rw [hq_same rfl, hg]; rfl
  refine ret_row rfl h4 hg' Tryz.underlying33 rfl (by kernel_rfl) hd ⟨⟨f, t, rfl, ?_, hF⟩, hX.row (Nat.le_refl _) _, hS.row hb _⟩
  exact (hR.keeps (fun k hk _ => setRow_other w _ k _ (by omega))).imp' (fun g hg _ => Nat.le_of_lt hg)
theorem pred_nat (e : Nat) : ((e + 1 : Nat) : Int) - 1 = (e : Int) := by omega
/-- A node's zero. -/
def zeroN : Array Value := #[.int .i64 0, .int .i64 0, .int .i64 0, .int .i64 0, .string ⟨#[]⟩, .int .i64 0, .int .i64 0, .int .i64 0, .bool false, .bool false, .int .i64 0, .int .i64 0, .int .i64 0, .bool false, .bool false, .string ⟨#[]⟩, .slice none 0 0]
set_option maxRecDepth 100000 in
set_option maxHeartbeats 8000000 in
theorem formula_any (d : Nat) (hd : d ≤ 100) (ih : ∀ e, d = e + 1 → ForS e) : ForS d := by
  intro b W hS hQ hL hb
  obtain ⟨W1, hW1, hE1, hG1, hL1, hS1⟩ := new_blk W #[.int .i64 0, .int .i64 0, .int .i64 0, .int .i64 0, .string ⟨#[]⟩, .int .i64 0, .int .i64 0, .int .i64 0, .bool false, .bool false, .int .i64 0, .int .i64 0, .int .i64 0, .bool false, .bool false, .string ⟨#[]⟩, .slice none 0 0] 33
  obtain ⟨p, len, cap, t, hSI⟩ := hS.ext hE1
  have HW1 := Lib.hid hW1
  have HE1 := Lib.hid hE1
  have HG1 := Lib.hid hG1
  have HQ := Lib.hid hQ
  have HL := Lib.hid hL
  have HB := Lib.hid hb
  have HIH := Lib.hid ih
  have HSI := Lib.hid hSI
  have HD := Lib.hid hd
  obtain ⟨hq1, hq2, hq3, hq4⟩ := hSI
  have HSB := Lib.hid hq4
  have hcb := cell_of_row W1 b 0 _ _ _ hq1
  have hfb := frozen_of_row W1 b 0 _ _ hq1
  simp only [List.getElem?_toArray, List.getElem?_cons_zero] at hcb
  have HQ2 := Lib.hid hq2
  clear hW1 hE1 hG1 hL1 hS1 hS hQ hL hb ih hq1 hq4 hd hq2
  go_enter Tryz.func8, Tryz.ntmps8
  go_upto_region 1 with (fail)
  rw [HW1.out]
  clear HW1
  go_upto_if 16 with (fail)
  go_cut [5] (fun s5 wx => ∃ c : Nat, s5 = .int .i64 (c : Int) ∧ Hid (c < 256) ∧ Hid (ExtX b W1 wx ∧ SeedAt b wx))
  case first =>
    cases len with
    | zero =>
      go_wp2_with fail
      go_meet
      case rel => exact ⟨0, rfl, Lib.hid (by omega), Lib.hid ⟨ExtX.refl _ _, p, 0, cap, t, HSI.out⟩⟩
    | succ len =>
      obtain ⟨g, o, z, rfl, hgb, hz, hcz⟩ := HSB.out 0 (by omega)
      have HZ := Lib.hid hz
      have hlen0 : (0 : Int) < ((len + 1 : Nat) : Int) := by omega
      have hlen1 : (1 : Int) ≤ ((len + 1 : Nat) : Int) := by omega
      rw [Nat.add_zero] at hcz
      have hwz : wrap64 (z : Int) = (z : Int) := IntWalk.wrap64_in _ ⟨by omega, by omega⟩
      have HWZ := Lib.hid hwz
      clear hz
      by_cases hc1 : cap = 1
      · subst hc1
        obtain rfl : len = 0 := by have := HQ2.out; omega
        go_wp2_with fail
        go_meet
        case rel => exact ⟨z, by first | rfl | rw [HWZ.out], HZ, Lib.hid ⟨(ExtX.refl _ _).set _ _, HSI.out.next _ (fun h => by omega) 0 rfl⟩⟩
      · go_wp2_with fail
        go_meet
        case rel => exact ⟨z, by first | rfl | rw [HWZ.out], HZ, Lib.hid ⟨(ExtX.refl _ _).set _ _, HSI.out.next _ (fun _ => rfl) _ rfl⟩⟩
  case rest =>
    obtain ⟨c, rfl, HC, HX⟩ := hcut
    clear hcb hfb hq3
    obtain ⟨p2, len2, cap2, t2, hSI2⟩ := HX.out.2
    have HX2 := Lib.hid HX.out.1
    have HSI2 := Lib.hid hSI2
    obtain ⟨hq1, -, hq3, -⟩ := hSI2
    have hcb := cell_of_row wc b 0 _ _ _ hq1
    simp only [List.getElem?_toArray, List.getElem?_cons_zero] at hcb
    clear hq1 HX HSB HSI
    go_upto_region 6 with (fail)
    go_cut [39] (fun s39 wx => (∃ bb, s39 = .bool bb ∧ Hid (bb = false → 1 ≤ d)) ∧ wx = wc)
    case first =>
      by_cases hd0 : d = 0
      · subst hd0
        go_wp2_with fail
        go_meet
        case rel => exact ⟨⟨true, rfl, Lib.hid (fun h => by cases h)⟩, rfl⟩
      · have hd1 : (0 : Int) < (d : Int) := by omega
        have hd2 : decide ((d : Int) ≤ 0) = false := by simp; omega
        by_cases hl0 : len2 = 0
        · subst hl0
          go_wp2_with fail
          go_meet
          case rel => exact ⟨⟨true, rfl, Lib.hid (fun h => by cases h)⟩, rfl⟩
        · have hl1 : ((len2 : Int) == 0) = false := by simp; omega
          have HD1 : Hid (1 ≤ d) := Lib.hid (by omega)
          clear hd0 hl0
          go_wp2_with fail
          go_meet
          case rel => exact ⟨⟨false, rfl, Lib.hid (fun _ => HD1.out)⟩, rfl⟩
    case rest =>
      obtain ⟨⟨bb, rfl, HBB⟩, rfl⟩ := hcut
      go_upto_if 39 with (fail)
      go_cut [6] (fun s6 wx => (∃ k : Nat, s6 = .int .i64 (k : Int) ∧ Hid (k < 16 ∧ (6 ≤ k → 1 ≤ d))) ∧ wx = wc)
      case first =>
        cases bb
        · go_wp2_with fail
          go_meet
          case rel => exact ⟨⟨c % 16, by rw [Int.natCast_emod]; rfl, Lib.hid ⟨by omega, fun _ => HBB.out trivial⟩⟩, rfl⟩
        · go_wp2_with fail
          go_meet
          case rel => exact ⟨⟨c % 6, by rw [Int.natCast_emod]; rfl, Lib.hid ⟨by omega, fun h => by omega⟩⟩, rfl⟩
      case rest =>
        obtain ⟨⟨k, rfl, HK⟩, rfl⟩ := hcut
        have HS2 : Hid (SeedAt b wc) := Lib.hid ⟨p2, len2, cap2, t2, HSI2.out⟩
        have HX : Hid (ExtX b W wc) := Lib.hid ((ExtX.of_ext HE1.out).trans HX2.out)
        have HG : Hid (wc.heap[W.heap.size]? = some (.cells zeroN 33 (0, 0))) := Lib.hid (HX2.out.blk HG1.out (by have := HB.out; omega))
        obtain ⟨q, hq⟩ : ∃ q, c / 16 = q := ⟨_, rfl⟩
        have HQ16 : Hid (q < 16) := Lib.hid (by have := HC.out; omega)
        have q1 : (c : Int) / 16 = (q : Int) := by omega
        have q2 : wrap64 (q : Int) = (q : Int) := IntWalk.wrap64_in _ ⟨by omega, by have := HQ16.out; omega⟩
        clear hq HG1 HX2 hcb hq3 HQ2
        by_cases hk : k < 2
        · have g1 : (k : Int) < 2 := by omega
          obtain ⟨N, hN⟩ : ∃ N : Int, (q : Int) * 500000 = N := ⟨_, rfl⟩
          have HN : Hid (0 ≤ N ∧ N ≤ 9223372036854775807 ∧ N ≠ -9223372036854775808) := Lib.hid (by have := HQ16.out; omega)
          have hN2 : wrap64 N = N := IntWalk.wrap64_in _ ⟨by have := HN.out.1; omega, HN.out.2.1⟩
          clear hk
          go_wp2_with fail
          refine (vnum_any N _).mono ?_
          rintro e w1 ⟨rfl, hE1⟩
          have HE2 : Hid (Ext wc w1) := Lib.hid hE1
          clear hE1
          go_wp2_with fail
          refine (tval_any 1 N ⟨#[]⟩ _).mono ?_
          rintro e w2 ⟨rfl, hE2⟩
          have HE3 : Hid (Ext wc w2) := Lib.hid (HE2.out.trans hE2)
          have hg := (HE2.out.trans hE2).blk HG.out
          clear hE2
          unfold Fl.val
          go_wp2_with (first | ((with_reducible refine wpl_guard (isStore 33) ?_ ?_); (· rfl); refine wpl_store (t := ?_) (old := ?_) (w' := ?_) rfl 33 _ _ rfl rfl rfl ?_ ?_ ?_ ?_ ?_ ?_; rotate_left 2; (· (first | (with_reducible assumption) | (simp (disch := (first | omega | (simp only [World.size_alloc, World.size_setCell, World.size_drew, size_setRow]; done) | (simp only [World.size_alloc, World.size_setCell, World.size_drew, size_setRow]; omega))) only [hq_at, hq_past, hq_drew, hq_drewN, hq_cell, hq_row, hq_same, rowOf_cells, Option.map_some, *]; rfl) | (simp (disch := (first | omega | (simp only [World.size_alloc, World.size_setCell, World.size_drew, size_setRow]; done) | (simp only [World.size_alloc, World.size_setCell, World.size_drew, size_setRow]; omega))) only [hq_at, hq_past, hq_drew, hq_drewN, hq_cell, hq_row, hq_same, rowOf_cells, Option.map_some, *]))); (· kernel_rfl); (· rfl); (· rfl); rotate_left 1; (· (first | (simp (disch := (first | omega | (simp only [World.size_alloc, World.size_setCell, World.size_drew, size_setRow]; done) | (simp only [World.size_alloc, World.size_setCell, World.size_drew, size_setRow]; omega))) only [setRow_at, setRow_past, setRow_drew]; rfl) | rfl))))
          exact for_end HB.out (HX.out.trans (.of_ext HE3.out)) (HS2.out.ext HE3.out) hg (rep_lit ⟨by have := HN.out.1; omega, HN.out.2.1⟩ (by show 0 ≤ _; omega)) (.lit d 1 N ⟨#[]⟩ (by unfold vr; exact decide_eq_true (.inr (.inl ⟨rfl, HN.out.2.2, rfl⟩))) ⟨by have := HN.out.1; omega, HN.out.2.1⟩ (by show 0 ≤ 64; omega)) rfl rfl
        have n0 : decide ((k : Int) < 2) = false := by simp; omega
        by_cases hk : k = 2
        · subst hk
          obtain ⟨x16, h16⟩ : ∃ x, bits .and .i64 (c : Int) 16 = x := ⟨_, rfl⟩
          obtain ⟨bo, hbo⟩ : ∃ b, (x16 == 0) = b := ⟨_, rfl⟩
          obtain ⟨m7, hm7⟩ : ∃ m : Nat, q % 7 = m := ⟨_, rfl⟩
          have HM7 : Hid (1 ≤ (m7 : Int) + 1 ∧ (m7 : Int) + 1 ≤ 7) := Lib.hid (by omega)
          have q7 : (q : Int) % 7 = (m7 : Int) := by omega
          obtain ⟨e7, he7⟩ : ∃ e : Int, (m7 : Int) + 1 = e := ⟨_, rfl⟩
          have q8 : wrap64 e7 = e7 := IntWalk.wrap64_in _ ⟨by have := HM7.out; omega, by have := HM7.out; omega⟩
          rw [he7] at HM7
          obtain ⟨i4, hi4⟩ : ∃ i : Nat, c / 64 = i := ⟨_, rfl⟩
          have hi : i4 = 0 ∨ i4 = 1 ∨ i4 = 2 ∨ i4 = 3 := by have := HC.out; omega
          have q4 : (c : Int) / 64 = (i4 : Int) := by omega
          have HS22 : Hid ((⟨#[97, 34, 98]⟩ : ByteArray).size = 3) := Lib.hid rfl
          clear hm7 hi4
          go_wp2_with fail
          refine (vtext_yes ⟨#[97, 34, 98]⟩ _ (by decide)).mono ?_
          rintro e w1 ⟨rfl, hE1⟩
          have HE1' : Hid (Ext wc w1) := Lib.hid hE1
          clear hE1
          go_wp2_with fail
          refine (tval_any 2 0 tAB _).mono ?_
          rintro e w2 ⟨rfl, hE2⟩
          have HE2 := Lib.hid (HE1'.out.trans hE2)
          clear hE2
          go_wp2_with fail
          refine (vbool_any bo _).mono ?_
          rintro e w3 ⟨rfl, hE3⟩
          have HE3 := Lib.hid (HE2.out.trans hE3)
          clear hE3
          obtain ⟨bn, hbn⟩ : ∃ n : Int, (if bo then 1 else 0 : Int) = n := ⟨_, rfl⟩
          have HBN : Hid (bn = 0 ∨ bn = 1) := Lib.hid (by cases bo; exact .inl hbn.symm; exact .inr hbn.symm)
          rw [hbn]
          clear hbn
          go_wp2_with fail
          refine (tval_any 3 bn ⟨#[]⟩ _).mono ?_
          rintro e w4 ⟨rfl, hE4⟩
          have HE4 := Lib.hid (HE3.out.trans hE4)
          clear hE4
          go_wp2_with fail
          refine (vfail_any e7 _).mono ?_
          rintro e w5 ⟨rfl, hE5⟩
          have HE5 := Lib.hid (HE4.out.trans hE5)
          clear hE5
          go_wp2_with fail
          refine (tval_any 4 e7 ⟨#[]⟩ _).mono ?_
          rintro e w6 ⟨rfl, hE6⟩
          have HE6 := Lib.hid (HE5.out.trans hE6)
          clear hE6
          go_wp2_with fail
          refine (tval_any 0 0 ⟨#[]⟩ _).mono ?_
          rintro e w7 ⟨rfl, hE7⟩
          have HE7 := Lib.hid (HE6.out.trans hE7)
          clear hE7
          unfold Fl.val
          obtain ⟨F0, hF0⟩ : ∃ F, litF 2 0 tAB = F := ⟨_, rfl⟩
          obtain ⟨F1, hF1⟩ : ∃ F, litF 3 bn ⟨#[]⟩ = F := ⟨_, rfl⟩
          obtain ⟨F2, hF2⟩ : ∃ F, litF 4 e7 ⟨#[]⟩ = F := ⟨_, rfl⟩
          obtain ⟨F3, hF3⟩ : ∃ F, litF 0 0 ⟨#[]⟩ = F := ⟨_, rfl⟩
          rw [hF0, hF1, hF2, hF3]
          have HF0 := Lib.hid hF0
          have HF1 := Lib.hid hF1
          have HF2 := Lib.hid hF2
          have HF3 := Lib.hid hF3
          obtain ⟨W8, hW8, hE8, hG8, hL8, hS8⟩ := new_blk w7 (F0.cells ++ F1.cells ++ (F2.cells ++ F3.cells)) 33
          have HW8 := Lib.hid hW8
          have HE8 := Lib.hid (HE7.out.trans hE8)
          have hg := (HE7.out.trans hE8).blk HG.out
          have HG8 := Lib.hid hG8
          clear hF0 hF1 hF2 hF3 hE8 hG8 hL8 hS8 hW8 HE1' HE2 HE3 HE4 HE5 HE6
          rcases hi with rfl | rfl | rfl | rfl
          · have hna : NodeAt W8 w7.heap.size 0 F0 := (at4 HG8.out).1
            clear HG8
            have hbs := bs4 F0 F1 F2 F3 w7
            rw [HW8.out] at hbs
            go_wp2_with (first | ((with_reducible refine wpl_guard isBS ?_ ?_); (· rfl); refine wpl_bs rfl _ _ _ rfl ?_ (hbs) ?_; (· rfl)) | ((with_reducible refine wpl_guard (isLoad 33) ?_ ?_); (· rfl); refine wpl_load_node rfl 33 _ rfl rfl hna Tryz.underlying33 rfl ?_ ?_; (· kernel_rfl); (try dsimp only [Act.put, List.setIfInBounds_toArray, List.set_cons_zero, List.set_cons_succ])) | ((with_reducible refine wpl_guard (isStore 33) ?_ ?_); (· rfl); refine wpl_store (t := ?_) (old := ?_) (w' := ?_) rfl 33 _ _ rfl rfl rfl ?_ ?_ ?_ ?_ ?_ ?_; rotate_left 2; (· (first | (with_reducible assumption) | (simp (disch := (first | omega | (simp only [World.size_alloc, World.size_setCell, World.size_drew, size_setRow]; done) | (simp only [World.size_alloc, World.size_setCell, World.size_drew, size_setRow]; omega))) only [hq_at, hq_past, hq_drew, hq_drewN, hq_cell, hq_row, hq_same, rowOf_cells, Option.map_some, *]; rfl) | (simp (disch := (first | omega | (simp only [World.size_alloc, World.size_setCell, World.size_drew, size_setRow]; done) | (simp only [World.size_alloc, World.size_setCell, World.size_drew, size_setRow]; omega))) only [hq_at, hq_past, hq_drew, hq_drewN, hq_cell, hq_row, hq_same, rowOf_cells, Option.map_some, *]))); (· kernel_rfl); (· rfl); (· rfl); rotate_left 1; (· (first | (simp (disch := (first | omega | (simp only [World.size_alloc, World.size_setCell, World.size_drew, size_setRow]; done) | (simp only [World.size_alloc, World.size_setCell, World.size_drew, size_setRow]; omega))) only [setRow_at, setRow_past, setRow_drew]; rfl) | rfl))))
            exact for_end HB.out (HX.out.trans (.of_ext HE8.out)) (HS2.out.ext HE8.out) hg (show Rep W8 (fun g => W.heap.size < g) (.mk (litS 2 0 tAB) []) F0 by rw [← HF0.out]; exact (rep_text _ _)) (ft_text d) rfl rfl
          · have hna : NodeAt W8 w7.heap.size 17 F1 := (at4 HG8.out).2.1
            clear HG8
            have hbs := bs4 F0 F1 F2 F3 w7
            rw [HW8.out] at hbs
            go_wp2_with (first | ((with_reducible refine wpl_guard isBS ?_ ?_); (· rfl); refine wpl_bs rfl _ _ _ rfl ?_ (hbs) ?_; (· rfl)) | ((with_reducible refine wpl_guard (isLoad 33) ?_ ?_); (· rfl); refine wpl_load_node rfl 33 _ rfl rfl hna Tryz.underlying33 rfl ?_ ?_; (· kernel_rfl); (try dsimp only [Act.put, List.setIfInBounds_toArray, List.set_cons_zero, List.set_cons_succ])) | ((with_reducible refine wpl_guard (isStore 33) ?_ ?_); (· rfl); refine wpl_store (t := ?_) (old := ?_) (w' := ?_) rfl 33 _ _ rfl rfl rfl ?_ ?_ ?_ ?_ ?_ ?_; rotate_left 2; (· (first | (with_reducible assumption) | (simp (disch := (first | omega | (simp only [World.size_alloc, World.size_setCell, World.size_drew, size_setRow]; done) | (simp only [World.size_alloc, World.size_setCell, World.size_drew, size_setRow]; omega))) only [hq_at, hq_past, hq_drew, hq_drewN, hq_cell, hq_row, hq_same, rowOf_cells, Option.map_some, *]; rfl) | (simp (disch := (first | omega | (simp only [World.size_alloc, World.size_setCell, World.size_drew, size_setRow]; done) | (simp only [World.size_alloc, World.size_setCell, World.size_drew, size_setRow]; omega))) only [hq_at, hq_past, hq_drew, hq_drewN, hq_cell, hq_row, hq_same, rowOf_cells, Option.map_some, *]))); (· kernel_rfl); (· rfl); (· rfl); rotate_left 1; (· (first | (simp (disch := (first | omega | (simp only [World.size_alloc, World.size_setCell, World.size_drew, size_setRow]; done) | (simp only [World.size_alloc, World.size_setCell, World.size_drew, size_setRow]; omega))) only [setRow_at, setRow_past, setRow_drew]; rfl) | rfl))))
            exact for_end HB.out (HX.out.trans (.of_ext HE8.out)) (HS2.out.ext HE8.out) hg (show Rep W8 (fun g => W.heap.size < g) (.mk (litS 3 bn ⟨#[]⟩) []) F1 by rw [← HF1.out]; exact (rep_bool _ _ HBN.out)) (ft_bool d HBN.out) rfl rfl
          · have hna : NodeAt W8 w7.heap.size 34 F2 := (at4 HG8.out).2.2.1
            clear HG8
            have hbs := bs4 F0 F1 F2 F3 w7
            rw [HW8.out] at hbs
            go_wp2_with (first | ((with_reducible refine wpl_guard isBS ?_ ?_); (· rfl); refine wpl_bs rfl _ _ _ rfl ?_ (hbs) ?_; (· rfl)) | ((with_reducible refine wpl_guard (isLoad 33) ?_ ?_); (· rfl); refine wpl_load_node rfl 33 _ rfl rfl hna Tryz.underlying33 rfl ?_ ?_; (· kernel_rfl); (try dsimp only [Act.put, List.setIfInBounds_toArray, List.set_cons_zero, List.set_cons_succ])) | ((with_reducible refine wpl_guard (isStore 33) ?_ ?_); (· rfl); refine wpl_store (t := ?_) (old := ?_) (w' := ?_) rfl 33 _ _ rfl rfl rfl ?_ ?_ ?_ ?_ ?_ ?_; rotate_left 2; (· (first | (with_reducible assumption) | (simp (disch := (first | omega | (simp only [World.size_alloc, World.size_setCell, World.size_drew, size_setRow]; done) | (simp only [World.size_alloc, World.size_setCell, World.size_drew, size_setRow]; omega))) only [hq_at, hq_past, hq_drew, hq_drewN, hq_cell, hq_row, hq_same, rowOf_cells, Option.map_some, *]; rfl) | (simp (disch := (first | omega | (simp only [World.size_alloc, World.size_setCell, World.size_drew, size_setRow]; done) | (simp only [World.size_alloc, World.size_setCell, World.size_drew, size_setRow]; omega))) only [hq_at, hq_past, hq_drew, hq_drewN, hq_cell, hq_row, hq_same, rowOf_cells, Option.map_some, *]))); (· kernel_rfl); (· rfl); (· rfl); rotate_left 1; (· (first | (simp (disch := (first | omega | (simp only [World.size_alloc, World.size_setCell, World.size_drew, size_setRow]; done) | (simp only [World.size_alloc, World.size_setCell, World.size_drew, size_setRow]; omega))) only [setRow_at, setRow_past, setRow_drew]; rfl) | rfl))))
            exact for_end HB.out (HX.out.trans (.of_ext HE8.out)) (HS2.out.ext HE8.out) hg (show Rep W8 (fun g => W.heap.size < g) (.mk (litS 4 e7 ⟨#[]⟩) []) F2 by rw [← HF2.out]; exact (rep_err _ _ HM7.out)) (ft_err d HM7.out) rfl rfl
          · have hna : NodeAt W8 w7.heap.size 51 F3 := (at4 HG8.out).2.2.2
            clear HG8
            have hbs := bs4 F0 F1 F2 F3 w7
            rw [HW8.out] at hbs
            go_wp2_with (first | ((with_reducible refine wpl_guard isBS ?_ ?_); (· rfl); refine wpl_bs rfl _ _ _ rfl ?_ (hbs) ?_; (· rfl)) | ((with_reducible refine wpl_guard (isLoad 33) ?_ ?_); (· rfl); refine wpl_load_node rfl 33 _ rfl rfl hna Tryz.underlying33 rfl ?_ ?_; (· kernel_rfl); (try dsimp only [Act.put, List.setIfInBounds_toArray, List.set_cons_zero, List.set_cons_succ])) | ((with_reducible refine wpl_guard (isStore 33) ?_ ?_); (· rfl); refine wpl_store (t := ?_) (old := ?_) (w' := ?_) rfl 33 _ _ rfl rfl rfl ?_ ?_ ?_ ?_ ?_ ?_; rotate_left 2; (· (first | (with_reducible assumption) | (simp (disch := (first | omega | (simp only [World.size_alloc, World.size_setCell, World.size_drew, size_setRow]; done) | (simp only [World.size_alloc, World.size_setCell, World.size_drew, size_setRow]; omega))) only [hq_at, hq_past, hq_drew, hq_drewN, hq_cell, hq_row, hq_same, rowOf_cells, Option.map_some, *]; rfl) | (simp (disch := (first | omega | (simp only [World.size_alloc, World.size_setCell, World.size_drew, size_setRow]; done) | (simp only [World.size_alloc, World.size_setCell, World.size_drew, size_setRow]; omega))) only [hq_at, hq_past, hq_drew, hq_drewN, hq_cell, hq_row, hq_same, rowOf_cells, Option.map_some, *]))); (· kernel_rfl); (· rfl); (· rfl); rotate_left 1; (· (first | (simp (disch := (first | omega | (simp only [World.size_alloc, World.size_setCell, World.size_drew, size_setRow]; done) | (simp only [World.size_alloc, World.size_setCell, World.size_drew, size_setRow]; omega))) only [setRow_at, setRow_past, setRow_drew]; rfl) | rfl))))
            exact for_end HB.out (HX.out.trans (.of_ext HE8.out)) (HS2.out.ext HE8.out) hg (show Rep W8 (fun g => W.heap.size < g) (.mk (litS 0 0 ⟨#[]⟩) []) F3 by rw [← HF3.out]; exact (rep_blank _ _)) (ft_blank d) rfl rfl
        have n2 : ((k : Int) == 2) = false := by simp; omega
        by_cases hk : k < 5
        · have g3 : (k : Int) < 5 := by omega
          clear hk
          go_wp2_with fail
          refine (ref_any q k _ HQ16.out).mono ?_
          rintro e w1 ⟨⟨r, rfl, hsm, -⟩, hE1⟩
          have HE2 : Hid (Ext wc w1) := Lib.hid hE1
          have HSM := Lib.hid hsm
          clear hE1 hsm
          go_wp2_with fail
          refine (tcell_any r _).mono ?_
          rintro e w2 ⟨rfl, hE2⟩
          have HE3 : Hid (Ext wc w2) := Lib.hid (HE2.out.trans hE2)
          have hg := (HE2.out.trans hE2).blk HG.out
          clear hE2
          unfold Fl.val
          go_wp2_with (first | ((with_reducible refine wpl_guard (isStore 33) ?_ ?_); (· rfl); refine wpl_store (t := ?_) (old := ?_) (w' := ?_) rfl 33 _ _ rfl rfl rfl ?_ ?_ ?_ ?_ ?_ ?_; rotate_left 2; (· (first | (with_reducible assumption) | (simp (disch := (first | omega | (simp only [World.size_alloc, World.size_setCell, World.size_drew, size_setRow]; done) | (simp only [World.size_alloc, World.size_setCell, World.size_drew, size_setRow]; omega))) only [hq_at, hq_past, hq_drew, hq_drewN, hq_cell, hq_row, hq_same, rowOf_cells, Option.map_some, *]; rfl) | (simp (disch := (first | omega | (simp only [World.size_alloc, World.size_setCell, World.size_drew, size_setRow]; done) | (simp only [World.size_alloc, World.size_setCell, World.size_drew, size_setRow]; omega))) only [hq_at, hq_past, hq_drew, hq_drewN, hq_cell, hq_row, hq_same, rowOf_cells, Option.map_some, *]))); (· kernel_rfl); (· rfl); (· rfl); rotate_left 1; (· (first | (simp (disch := (first | omega | (simp only [World.size_alloc, World.size_setCell, World.size_drew, size_setRow]; done) | (simp only [World.size_alloc, World.size_setCell, World.size_drew, size_setRow]; omega))) only [setRow_at, setRow_past, setRow_drew]; rfl) | rfl))))
          exact for_end HB.out (HX.out.trans (.of_ext HE3.out)) (HS2.out.ext HE3.out) hg (rep_one _ _ r) (.one d r HSM.out) rfl rfl
        have n3 : decide ((k : Int) < 5) = false := by simp; omega
        by_cases hk : k = 5
        · subst hk
          have a1 := and1 c
          obtain ⟨m2, hm2⟩ : ∃ m, c % 2 = m := ⟨_, rfl⟩
          rw [hm2] at a1
          obtain ⟨q32, hq32⟩ : ∃ m : Nat, (c : Int) / 32 = (m : Int) := ⟨c / 32, by omega⟩
          have q32w : wrap64 (q32 : Int) = (q32 : Int) := IntWalk.wrap64_in _ ⟨by omega, by have := HC.out; omega⟩
          obtain ⟨m3, hm3⟩ : ∃ m : Nat, (q32 : Int) % 3 = (m : Int) := ⟨q32 % 3, by omega⟩
          have hq7 : q32 ≤ 7 := by have := HC.out; omega
          have HQ32 := Lib.hid hq7
          have HM3' := Lib.hid hm3
          clear hq7
          have HM2 : Hid (m2 < 2) := Lib.hid (by omega)
          have HM3 : Hid (m3 < 3) := Lib.hid (by omega)
          clear hm2
          go_upto_region 15 with (fail)
          go_wp2_with fail
          refine (ref_any q 3 _ HQ16.out).mono ?_
          rintro e w1 ⟨⟨⟨rs, rc, rr, rx, ry⟩, rfl, hsm, hs0⟩, hE1⟩
          have HE1' : Hid (Ext wc w1) := Lib.hid hE1
          have HSM := Lib.hid hsm
          obtain rfl : rs = 0 := hs0 (by omega)
          obtain ⟨rc, rfl⟩ : ∃ n : Nat, rc = (n : Int) := ⟨rc.toNat, by have : (0 : Int) ≤ rc := hsm.2.1.1; omega⟩
          obtain ⟨rr, rfl⟩ : ∃ n : Nat, rr = (n : Int) := ⟨rr.toNat, by have : (0 : Int) ≤ rr := hsm.2.2.1; omega⟩
          obtain ⟨cc, hcc⟩ : ∃ n : Nat, (rc : Int) + (m2 : Int) = (n : Int) := ⟨rc + m2, by omega⟩
          obtain ⟨cr, hcr⟩ : ∃ n : Nat, (rr : Int) + (m3 : Int) = (n : Int) := ⟨rr + m3, by omega⟩
          have HCC : Hid (cc = rc + m2 ∧ cr = rr + m3 ∧ rc ≤ 3 ∧ rr ≤ 3) := Lib.hid ⟨by omega, by omega, by have : (rc : Int) ≤ 3 := hsm.2.1.2; omega, by have : (rr : Int) ≤ 3 := hsm.2.2.2; omega⟩
          have I1 := Lib.hid (wr1 (show cc ≤ 100 by have := HCC.out; have := HM2.out; omega))
          have I2 := Lib.hid (wr2 HQ32.out HM3'.out hcr (show cr ≤ 100 by have := HCC.out; have := HM3.out; omega))
          have ccw : wrap64 (cc : Int) = (cc : Int) := IntWalk.wrap64_in _ ⟨by omega, by have := HCC.out; have := HM2.out; omega⟩
          have crw : wrap64 (cr : Int) = (cr : Int) := IntWalk.wrap64_in _ ⟨by omega, by have := HCC.out; have := HM3.out; omega⟩
          obtain ⟨W2, hW2, hE2, hG2, hL2, hS2'⟩ := new_blk w1 #[.int .i64 0, .int .i64 (rc : Int), .int .i64 (rr : Int), .bool rx, .bool ry] 30
          obtain ⟨W3, hW3, hE3, hG3, hL3, hS3'⟩ := new_blk W2 #[.int .i64 0, .int .i64 (rc : Int), .int .i64 (rr : Int), .bool rx, .bool ry] 30
          obtain ⟨g7, hg7⟩ : ∃ g, w1.heap.size = g := ⟨_, rfl⟩
          have HG7' : Hid (w1.heap.size = g7) := Lib.hid hg7
          rw [hS2', hg7] at hG3
          rw [hg7] at hG2
          have HW2 := Lib.hid hW2
          have HW3 := Lib.hid hW3
          have HG7 := Lib.hid hg7
          have h7 := hE3.blk hG2
          have H7 := Lib.hid h7
          have H8 := Lib.hid hG3
          have HE3 := Lib.hid (HE1'.out.trans (hE2.trans hE3))
          have hg := HE3.out.blk HG.out
          clear hE1 hsm hs0 hW2 hE2 hG2 hL2 hS2' hW3 hE3 hG3 hL3 hS3' hg7
          unfold Rf.val
          go_upto_region 17 with (fail)
          rw [HW2.out, HW3.out, HG7.out]
          clear HW2 HW3 HG7
          have c71 := cell_of_row W3 g7 1 _ _ _ h7
          have c72 := cell_of_row W3 g7 2 _ _ _ h7
          have c81 := cell_of_row W3 (g7 + 1) 1 _ _ _ H8.out
          have c82 := cell_of_row W3 (g7 + 1) 2 _ _ _ H8.out
          have z81 := frozen_of_row W3 (g7 + 1) 1 _ _ H8.out
          have z82 := frozen_of_row W3 (g7 + 1) 2 _ _ H8.out
          simp only [List.getElem?_toArray, List.getElem?_cons_zero, List.getElem?_cons_succ] at c71 c72 c81 c82
          clear h7 hg
          have hne : g7 + 1 ≠ g7 := by omega
          go_region_held3 (fun w' => w'.cell? ⟨g7, 1, none⟩ = some (.int .i64 (rc : Int)) ∧ w'.cell? ⟨g7, 2, none⟩ = some (.int .i64 (rr : Int))) (first | go_keep) (first | fail)
          rw [I1.out, I2.out]
          obtain ⟨W4, hW4, h47, h48, hE4⟩ := area_world (.int .i64 (cc : Int)) (.int .i64 (cr : Int)) H7.out H8.out HE3.out (HG7'.out ▸ HE1'.out.size)
          rw [hW4]
          have HE4 := Lib.hid hE4
          have b7 := ext_blk h47
          have b8 := ext_blk h48
          have hr4 := Ext.refl W4
          clear hW4 h47 h48 hE4 c71 c72 c81 c82 z81 z82
          go_wp2_with fail
          refine (tspan_any ⟨0, rc, rr, rx, ry⟩ ⟨0, cc, cr, rx, ry⟩ _).mono ?_
          rintro e w5 ⟨rfl, hE5⟩
          have HE5 := Lib.hid (HE4.out.trans hE5)
          have hg := HE5.out.blk HG.out
          clear hE5
          unfold Fl.val
          go_wp2_with (first | ((with_reducible refine wpl_guard (isStore 33) ?_ ?_); (· rfl); refine wpl_store (t := ?_) (old := ?_) (w' := ?_) rfl 33 _ _ rfl rfl rfl ?_ ?_ ?_ ?_ ?_ ?_; rotate_left 2; (· (first | (with_reducible assumption) | (simp (disch := (first | omega | (simp only [World.size_alloc, World.size_setCell, World.size_drew, size_setRow]; done) | (simp only [World.size_alloc, World.size_setCell, World.size_drew, size_setRow]; omega))) only [hq_at, hq_past, hq_drew, hq_drewN, hq_cell, hq_row, hq_same, rowOf_cells, Option.map_some, *]; rfl) | (simp (disch := (first | omega | (simp only [World.size_alloc, World.size_setCell, World.size_drew, size_setRow]; done) | (simp only [World.size_alloc, World.size_setCell, World.size_drew, size_setRow]; omega))) only [hq_at, hq_past, hq_drew, hq_drewN, hq_cell, hq_row, hq_same, rowOf_cells, Option.map_some, *]))); (· kernel_rfl); (· rfl); (· rfl); rotate_left 1; (· (first | (simp (disch := (first | omega | (simp only [World.size_alloc, World.size_setCell, World.size_drew, size_setRow]; done) | (simp only [World.size_alloc, World.size_setCell, World.size_drew, size_setRow]; omega))) only [setRow_at, setRow_past, setRow_drew]; rfl) | rfl))))
          exact for_end HB.out (HX.out.trans (.of_ext HE5.out)) (HS2.out.ext HE5.out) hg (rep_area _ _ _ _) (.area d _ _ (small_area HCC.out HM2.out HM3.out)) rfl rfl
        have n5 : ((k : Int) == 5) = false := by simp; omega
        by_cases hk : k = 6
        · subst hk
          obtain ⟨e, he⟩ : ∃ e, d = e + 1 := ⟨d - 1, by have := HK.out.2 (by omega); omega⟩
          subst he
          have hd1 : ((e + 1 : Nat) : Int) - 1 = (e : Int) := by omega
          have hdw : wrap64 (e : Int) = (e : Int) := IntWalk.wrap64_in _ ⟨by omega, by have := HD.out; omega⟩
          go_wp2_with fail
          refine (HIH.out e rfl b wc HS2.out (HQ.out.extX HL.out HX.out) HL.out (Nat.lt_of_lt_of_le HB.out HX.out.size)).mono ?_
          rintro e' w1 ⟨⟨f1, t1, rfl, hR1, hF1⟩, hX1, hS1⟩
          have HX1 := Lib.hid hX1
          have HS1 := Lib.hid hS1
          have HR1 := Lib.hid hR1
          have HF1 := Lib.hid hF1
          clear hX1 hS1 hR1 hF1
          go_wp2_with fail
          refine (unary_any 5 f1 t1 (fun g => W.heap.size < g) w1 (HR1.out.imp' (fun g hg _ => Nat.lt_of_lt_of_le (blk_lt HG.out) hg)) (fun g hg => Nat.lt_of_lt_of_le (Nat.lt_of_lt_of_le (blk_lt HG.out) HX1.out.size) hg)).mono ?_
          rintro e' w2 ⟨⟨f2, rfl, hR2⟩, hE2⟩
          have HE2 := Lib.hid hE2
          have HR2 := Lib.hid hR2
          have hg := hE2.blk (HX1.out.blk HG.out (by have := HB.out; omega))
          clear hE2 hR2
          unfold Fl.val
          go_wp2_with (first | ((with_reducible refine wpl_guard (isStore 33) ?_ ?_); (· rfl); refine wpl_store (t := ?_) (old := ?_) (w' := ?_) rfl 33 _ _ rfl rfl rfl ?_ ?_ ?_ ?_ ?_ ?_; rotate_left 2; (· (first | (with_reducible assumption) | (simp (disch := (first | omega | (simp only [World.size_alloc, World.size_setCell, World.size_drew, size_setRow]; done) | (simp only [World.size_alloc, World.size_setCell, World.size_drew, size_setRow]; omega))) only [hq_at, hq_past, hq_drew, hq_drewN, hq_cell, hq_row, hq_same, rowOf_cells, Option.map_some, *]; rfl) | (simp (disch := (first | omega | (simp only [World.size_alloc, World.size_setCell, World.size_drew, size_setRow]; done) | (simp only [World.size_alloc, World.size_setCell, World.size_drew, size_setRow]; omega))) only [hq_at, hq_past, hq_drew, hq_drewN, hq_cell, hq_row, hq_same, rowOf_cells, Option.map_some, *]))); (· kernel_rfl); (· rfl); (· rfl); rotate_left 1; (· (first | (simp (disch := (first | omega | (simp only [World.size_alloc, World.size_setCell, World.size_drew, size_setRow]; done) | (simp only [World.size_alloc, World.size_setCell, World.size_drew, size_setRow]; omega))) only [setRow_at, setRow_past, setRow_drew]; rfl) | rfl))))
          exact for_end HB.out ((HX.out.trans HX1.out).trans (.of_ext HE2.out)) (HS1.out.ext HE2.out) hg HR2.out (.un e 5 t1 (.inl rfl) HF1.out) rfl rfl
        have n6 : ((k : Int) == 6) = false := by simp; omega
        by_cases hk : k = 7
        · subst hk
          obtain ⟨e, he⟩ : ∃ e, d = e + 1 := ⟨d - 1, by have := HK.out.2 (by omega); omega⟩
          subst he
          have hd1 : ((e + 1 : Nat) : Int) - 1 = (e : Int) := by omega
          have hdw : wrap64 (e : Int) = (e : Int) := IntWalk.wrap64_in _ ⟨by omega, by have := HD.out; omega⟩
          go_wp2_with fail
          refine (HIH.out e rfl b wc HS2.out (HQ.out.extX HL.out HX.out) HL.out (Nat.lt_of_lt_of_le HB.out HX.out.size)).mono ?_
          rintro e' w1 ⟨⟨f1, t1, rfl, hR1, hF1⟩, hX1, hS1⟩
          have HX1 := Lib.hid hX1
          have HS1 := Lib.hid hS1
          have HR1 := Lib.hid hR1
          have HF1 := Lib.hid hF1
          clear hX1 hS1 hR1 hF1
          go_wp2_with fail
          refine (unary_any 6 f1 t1 (fun g => W.heap.size < g) w1 (HR1.out.imp' (fun g hg _ => Nat.lt_of_lt_of_le (blk_lt HG.out) hg)) (fun g hg => Nat.lt_of_lt_of_le (Nat.lt_of_lt_of_le (blk_lt HG.out) HX1.out.size) hg)).mono ?_
          rintro e' w2 ⟨⟨f2, rfl, hR2⟩, hE2⟩
          have HE2 := Lib.hid hE2
          have HR2 := Lib.hid hR2
          have hg := hE2.blk (HX1.out.blk HG.out (by have := HB.out; omega))
          clear hE2 hR2
          unfold Fl.val
          go_wp2_with (first | ((with_reducible refine wpl_guard (isStore 33) ?_ ?_); (· rfl); refine wpl_store (t := ?_) (old := ?_) (w' := ?_) rfl 33 _ _ rfl rfl rfl ?_ ?_ ?_ ?_ ?_ ?_; rotate_left 2; (· (first | (with_reducible assumption) | (simp (disch := (first | omega | (simp only [World.size_alloc, World.size_setCell, World.size_drew, size_setRow]; done) | (simp only [World.size_alloc, World.size_setCell, World.size_drew, size_setRow]; omega))) only [hq_at, hq_past, hq_drew, hq_drewN, hq_cell, hq_row, hq_same, rowOf_cells, Option.map_some, *]; rfl) | (simp (disch := (first | omega | (simp only [World.size_alloc, World.size_setCell, World.size_drew, size_setRow]; done) | (simp only [World.size_alloc, World.size_setCell, World.size_drew, size_setRow]; omega))) only [hq_at, hq_past, hq_drew, hq_drewN, hq_cell, hq_row, hq_same, rowOf_cells, Option.map_some, *]))); (· kernel_rfl); (· rfl); (· rfl); rotate_left 1; (· (first | (simp (disch := (first | omega | (simp only [World.size_alloc, World.size_setCell, World.size_drew, size_setRow]; done) | (simp only [World.size_alloc, World.size_setCell, World.size_drew, size_setRow]; omega))) only [setRow_at, setRow_past, setRow_drew]; rfl) | rfl))))
          exact for_end HB.out ((HX.out.trans HX1.out).trans (.of_ext HE2.out)) (HS1.out.ext HE2.out) hg HR2.out (.un e 6 t1 (.inr rfl) HF1.out) rfl rfl
        have n7 : ((k : Int) == 7) = false := by simp; omega
        by_cases hk : k < 12
        · obtain ⟨e, he⟩ : ∃ e, d = e + 1 := ⟨d - 1, by have := HK.out.2 (by omega); omega⟩
          subst he
          have g12 : (k : Int) < 12 := by omega
          obtain ⟨m11, hm11⟩ : ∃ m : Nat, (c : Int) % 11 = (m : Int) := ⟨c % 11, by omega⟩
          obtain ⟨op, hop⟩ : ∃ o : Int, (m11 : Int) + 1 = o := ⟨_, rfl⟩
          have HOP : Hid (1 ≤ op ∧ op ≤ 11) := Lib.hid (by omega)
          have hd1 : ((e + 1 : Nat) : Int) - 1 = (e : Int) := by omega
          have hdw : wrap64 (e : Int) = (e : Int) := IntWalk.wrap64_in _ ⟨by omega, by have := HD.out; omega⟩
          have HM11 := Lib.hid hm11
          have HOPE := Lib.hid hop
          have HT11 := Lib.hid (tm11 hm11)
          have HW11 := Lib.hid (wr1' hop HOP.out)
          have HWe := Lib.hid (wr1 (n := e) (Nat.le_trans (Nat.le_succ e) HD.out))
          clear hk hm11 hop
          go_upto_region 24 with (fail)
          go_wp2_with fail
          refine (HIH.out e rfl b wc HS2.out (HQ.out.extX HL.out HX.out) HL.out (Nat.lt_of_lt_of_le HB.out HX.out.size)).mono ?_
          rintro e' w1 ⟨⟨f1, t1, rfl, hR1, hF1⟩, hX1, hS1⟩
          have HX1 := Lib.hid hX1
          have HS1 := Lib.hid hS1
          have HR1 := Lib.hid hR1
          have HF1 := Lib.hid hF1
          obtain ⟨W2, hW2, hE2, hG2, hL2, hS2'⟩ := new_blk w1 f1.cells 33
          have HW2 := Lib.hid hW2
          have HE2 := Lib.hid hE2
          have HG2 := Lib.hid hG2
          clear hX1 hS1 hR1 hF1 hW2 hE2 hG2 hL2 hS2'
          unfold Fl.val
          go_upto_region 25 with (first | ((with_reducible refine wpl_guard (isStore 33) ?_ ?_); (· rfl); refine wpl_store (t := ?_) (old := ?_) (w' := ?_) rfl 33 _ _ rfl rfl rfl ?_ ?_ ?_ ?_ ?_ ?_; rotate_left 2; (· (first | (with_reducible assumption) | (simp (disch := (first | omega | (simp only [World.size_alloc, World.size_setCell, World.size_drew, size_setRow]; done) | (simp only [World.size_alloc, World.size_setCell, World.size_drew, size_setRow]; omega))) only [hq_at, hq_past, hq_drew, hq_drewN, hq_cell, hq_row, hq_same, rowOf_cells, Option.map_some, *]; rfl) | (simp (disch := (first | omega | (simp only [World.size_alloc, World.size_setCell, World.size_drew, size_setRow]; done) | (simp only [World.size_alloc, World.size_setCell, World.size_drew, size_setRow]; omega))) only [hq_at, hq_past, hq_drew, hq_drewN, hq_cell, hq_row, hq_same, rowOf_cells, Option.map_some, *]))); (· kernel_rfl); (· rfl); (· rfl); rotate_left 1; (· (first | (simp (disch := (first | omega | (simp only [World.size_alloc, World.size_setCell, World.size_drew, size_setRow]; done) | (simp only [World.size_alloc, World.size_setCell, World.size_drew, size_setRow]; omega))) only [setRow_at, setRow_past, setRow_drew]; rfl) | rfl))))
          rw [HW2.out]
          refine wp_region_held (S := fun w' => w'.heap[w1.heap.size]? = some (.cells f1.cells 33 (0, 0))) (by kernel_rfl) ?_
          change wpAnyH _ _ _ _ _ 10 #[false, false, false, false, false, false, false, false, false, false] _ W2.drew
          refine wpAnyH_take (i := 0) (v := .int .i64 (c : Int)) rfl (by kernel_rfl) (by kernel_rfl) (by kernel_rfl) (fun c a w h => h) (.inl ⟨rfl, fun w hS => ?_⟩) HG2.out ?_
          · clear hS
            first | (go_simp; done) | (go_simp; rfl) | (go_simp; exact HT11.out) | (go_simp; exact HW11.out) | (go_simp; exact HWe.out)
          try simp only [Act.put, List.setIfInBounds_toArray, List.set_cons_zero, List.set_cons_succ]
          refine wpAnyH_take (i := 1) (v := .int .i64 (m11 : Int)) rfl (by kernel_rfl) (by kernel_rfl) (by kernel_rfl) (fun c a w h => h) (.inl ⟨rfl, fun w hS => ?_⟩) HG2.out ?_
          · clear hS
            first | (go_simp; done) | (go_simp; rfl) | (go_simp; exact HT11.out) | (go_simp; exact HW11.out) | (go_simp; exact HWe.out)
          try simp only [Act.put, List.setIfInBounds_toArray, List.set_cons_zero, List.set_cons_succ]
          refine wpAnyH_take (i := 2) (v := .int .i64 op) rfl (by kernel_rfl) (by kernel_rfl) (by kernel_rfl) (fun c a w h => h) (.inl ⟨rfl, fun w hS => ?_⟩) HG2.out ?_
          · clear hS
            first | (go_simp; done) | (go_simp; rfl) | (go_simp; exact HT11.out) | (go_simp; exact HW11.out) | (go_simp; exact HWe.out)
          try simp only [Act.put, List.setIfInBounds_toArray, List.set_cons_zero, List.set_cons_succ]
          refine wpAnyH_take (i := 3) (v := .agg f1.cells) rfl (by kernel_rfl) (by kernel_rfl) (by kernel_rfl) (fun c a w h => h) (.inl ⟨rfl, fun w hS => ?_⟩) HG2.out ?_
          · replace hS : w.heap[w1.heap.size]? = some (.cells f1.cells 33 (0, 0)) := hS
            exact exec_load_row 33 _ rfl rfl hS Tryz.underlying33 rfl (by kernel_rfl)
          try simp only [Act.put, List.setIfInBounds_toArray, List.set_cons_zero, List.set_cons_succ]
          refine wpAnyH_take (i := 4) (v := .pointer (some ⟨b, 0, none⟩)) rfl (by kernel_rfl) (by kernel_rfl) (by kernel_rfl) (fun c a w h => h) (.inl ⟨rfl, fun w hS => ?_⟩) HG2.out ?_
          · clear hS
            first | (go_simp; done) | (go_simp; rfl) | (go_simp; exact HT11.out) | (go_simp; exact HW11.out) | (go_simp; exact HWe.out)
          try simp only [Act.put, List.setIfInBounds_toArray, List.set_cons_zero, List.set_cons_succ]
          refine wpAnyH_take (i := 5) (v := .int .i64 ((e + 1 : Nat) : Int)) rfl (by kernel_rfl) (by kernel_rfl) (by kernel_rfl) (fun c a w h => h) (.inl ⟨rfl, fun w hS => ?_⟩) HG2.out ?_
          · clear hS
            first | (go_simp; done) | (go_simp; rfl) | (go_simp; exact HT11.out) | (go_simp; exact HW11.out) | (go_simp; exact HWe.out)
          try simp only [Act.put, List.setIfInBounds_toArray, List.set_cons_zero, List.set_cons_succ]
          refine wpAnyH_take (i := 6) (v := .int .i64 (e : Int)) rfl (by kernel_rfl) (by kernel_rfl) (by kernel_rfl) (fun c a w h => h) (.inl ⟨rfl, fun w hS => ?_⟩) HG2.out ?_
          · clear hS
            first | (go_simp; done) | (go_simp; rfl) | (go_simp; exact HT11.out) | (go_simp; exact HW11.out) | (go_simp; exact HWe.out)
          try simp only [Act.put, List.setIfInBounds_toArray, List.set_cons_zero, List.set_cons_succ]
          refine wpAnyH_all (rs := [7]) (by kernel_rfl) (by simp) (fun i hi => ?_)
          obtain rfl : i = 7 := by simpa using hi
          refine wpOp_step rfl (fun K' hK' => ?_)
          rw [if_pos (by rfl)]
          have hE2d : Ext w1 W2.drew := ext_drew HE2.out
          have hX2d := (HX.out.trans HX1.out).trans (.of_ext hE2d)
          have I2 := HIH.out e rfl b W2.drew (HS1.out.ext hE2d) (HQ.out.extX HL.out hX2d) HL.out (Nat.lt_of_lt_of_le HB.out hX2d.size)
          have I2' := Lib.hid I2
          have HX2d := Lib.hid hX2d
          have HE2d := Lib.hid hE2d
          clear I2 hX2d hE2d
          go_simp
          refine I2'.out.mono ?_
          rintro e' w3 ⟨⟨f2, t2, rfl, hR2, hF2⟩, hX3, hS3⟩
          have hne1 : w1.heap.size ≠ b := Nat.ne_of_gt (Nat.lt_of_lt_of_le HB.out (Nat.le_trans HX.out.size HX1.out.size))
          have hlt1 : W.heap.size < w1.heap.size := Nat.lt_of_lt_of_le (blk_lt HG.out) HX1.out.size
          have hlt3 : W.heap.size < w3.heap.size := Nat.lt_of_lt_of_le hlt1 (Nat.le_trans HE2d.out.size hX3.size)
          have hg93 := hX3.blk (show W2.drew.heap[w1.heap.size]? = _ from HG2.out) hne1
          have hr1 : Rep w3 (fun g => W.heap.size < g) t1 f1 := ((HR1.out.ext HE2d.out).keeps (hX3.keeps (fun h => absurd (Nat.lt_of_lt_of_le HB.out HX.out.size) (Nat.not_lt.2 h)))).imp' (fun g hg _ => Nat.lt_of_lt_of_le (blk_lt HG.out) hg)
          have hr2 : Rep w3 (fun g => W.heap.size < g) t2 f2 := hR2.imp' (fun g hg _ => Nat.lt_of_lt_of_le hlt1 (Nat.le_trans HE2d.out.size hg))
          have HB3 := Lib.hid (binary_any op f1 f2 t1 t2 (fun g => W.heap.size < g) w3 hr1 hr2 (fun g hg => Nat.lt_of_lt_of_le hlt3 hg))
          have HF2 := Lib.hid hF2
          have HX3 := Lib.hid (HX2d.out.trans hX3)
          have HS3 := Lib.hid hS3
          have HG93 := Lib.hid hg93
          have HLT1 := Lib.hid hlt1
          have hgr := hX3.blk (HE2d.out.blk (HX1.out.blk HG.out (Nat.ne_of_gt HB.out))) (Nat.ne_of_gt HB.out)
          have HGR := Lib.hid hgr
          clear hR2 hF2 hX3 hS3 hne1 hlt1 hlt3 hg93 hr1 hr2 hgr
          unfold Fl.val at HB3 ⊢
          refine hK' _ _ ⟨HG93.out, ?_⟩
          clear hK'
          try simp only [Act.put, List.setIfInBounds_toArray, List.set_cons_zero, List.set_cons_succ]
          refine wpAnyH_all (rs := [8]) (by kernel_rfl) (by simp) (fun i hi => ?_)
          obtain rfl : i = 8 := by simpa using hi
          refine wpOp_step rfl (fun K' hK' => ?_)
          rw [if_pos (by rfl)]
          go_simp
          refine HB3.out.mono ?_
          rintro e' w4 ⟨⟨f3, rfl, hR3⟩, hE4⟩
          have HR3 := Lib.hid hR3
          have HE4 := Lib.hid hE4
          clear hR3 hE4
          refine hK' _ _ ⟨HE4.out.blk HG93.out, ?_⟩
          clear hK'
          try simp only [Act.put, List.setIfInBounds_toArray, List.set_cons_zero, List.set_cons_succ]
          refine wpAnyH_all (rs := [9]) (by kernel_rfl) (by simp) (fun i hi => ?_)
          obtain rfl : i = 9 := by simpa using hi
          refine wpOp_step rfl (fun K' hK' => ?_)
          rw [if_pos (by rfl)]
          refine wp_store_row 33 _ _ rfl W.heap.size f3.cells rfl rfl 33 zeroN (HE4.out.blk HGR.out) (by kernel_rfl) rfl (by rw [← Array.all_toList]; rfl) ?_
          refine hK' _ _ ⟨(setRow_other w4 W.heap.size w1.heap.size f3.cells (Nat.ne_of_gt HLT1.out)).trans (HE4.out.blk HG93.out), ?_⟩
          clear hK'
          refine wpAnyH_done (by kernel_rfl) ?_ _
          go_wp2_with fail
          exact for_end HB.out (HX3.out.trans (.of_ext HE4.out)) (HS3.out.ext HE4.out) (HE4.out.blk HGR.out) HR3.out (.bin e op t1 t2 HOP.out HF1.out HF2.out) rfl rfl
        have n8 : decide ((k : Int) < 12) = false := by simp; omega
        obtain ⟨e, he⟩ : ∃ e, d = e + 1 := ⟨d - 1, by have := HK.out.2 (by omega); omega⟩
        subst he
        have HWe := Lib.hid (wr1 (n := e) (Nat.le_trans (Nat.le_succ e) HD.out))
        obtain ⟨p4, len4, cap4, t4, hSI4⟩ := HS2.out
        have HSB4 := Lib.hid hSI4.2.2.2
        have hcb := cell_of_row wc b 0 _ _ _ hSI4.1
        simp only [List.getElem?_toArray, List.getElem?_cons_zero] at hcb
        clear hSI4
        go_upto_region 27 with (fail)
        go_upto_if 148 with (fail)
        go_cut [10] (fun s10 wx => (∃ F : Nat, s10 = .int .i64 ((F : Int) + 1) ∧ Hid (F < 54)) ∧ wx = wc)
        case first =>
          have FW1 := Lib.hid (fw1 HC.out)
          have FM1 : Hid (c / 4 % 54 < 54) := Lib.hid (Nat.mod_lt _ (Nat.succ_pos 53))
          cases len4 with
          | zero =>
            go_wp2_with fail
            go_meet
            case rel => exact ⟨⟨c / 4 % 54, by rw [FW1.out], FM1⟩, rfl⟩
          | succ len4 =>
            obtain ⟨g, o, z, rfl, hgb, hz, hcz⟩ := HSB4.out 0 (Nat.succ_pos _)
            rw [Nat.add_zero] at hcz
            have FW2 := Lib.hid (fw2 hz)
            have FM2 : Hid (z % 54 < 54) := Lib.hid (Nat.mod_lt _ (Nat.succ_pos 53))
            have hlen0 : (0 : Int) < ((len4 + 1 : Nat) : Int) := Int.natCast_pos.2 (Nat.succ_pos _)
            clear hgb hz
            go_wp2_with fail
            go_meet
            case rel => exact ⟨⟨z % 54, by rw [FW2.out], FM2⟩, rfl⟩
        case rest =>
          obtain ⟨⟨F, rfl, HF⟩, rfl⟩ := hcut
          clear hcb
          go_wp2_with fail
          go_loopw [11] (fun v wr => ∃ (l : List Fl) (ts : List Tr), l.length = ts.length ∧ Hid (l.length ≤ fnLo F) ∧ Hid (wr.ownsRow wc.heap.size 33 17 v l.length (fcells l)) ∧
              Hid (∀ (i : Nat) t f, ts[i]? = some t → l[i]? = some f → Rep wr (fun g => W.heap.size < g ∧ some g ≠ v.ownBlock) t f) ∧ Hid (∀ t ∈ ts, FT e t) ∧ Hid (ExtX b wc wr ∧ SeedAt b wr))
            (fun v _ => 9 - lenOf v)
          case atStart => exact ⟨[], [], rfl, Lib.hid (Nat.zero_le _), Lib.hid (World.ownsRow_nil _ _ _ _), Lib.hid (fun i t f h => by cases h), Lib.hid (fun t h => by cases h), Lib.hid ⟨ExtX.refl _ _, HS2.out⟩⟩
          case round =>
            obtain ⟨l, ts, hlt, HLe, HOw, HRp, HFt, HXr⟩ := hrel
            obtain ⟨p5, cap5, rfl⟩ := owned_form HOw.out
            have HLT := Lib.hid hlt
            have hn9 : ((l.length : Nat) : Int) < 9 := Int.ofNat_lt.2 (Nat.lt_of_le_of_lt (Nat.le_trans HLe.out (fn_lo F HF.out).1) (by decide))
            have e30 : Hid (Calls Tryz.prog 24 #[.int .i64 ((F : Int) + 1), .int .i64 ((l.length : Nat) : Int)] wr fun e w' => e = .returned (.bool (fitsOf ((F : Int) + 1) ((l.length : Nat) : Int))) ∧ Ext wr w') := Lib.hid (fits_any _ _ wr (HQ.out.extX HL.out (HX.out.trans HXr.out.1)).1)
            clear hlt
            go_wp2_with fail
            refine e30.out.mono ?_
            rintro e' w6 ⟨rfl, hE6⟩
            rw [fits_at HF.out HLe.out]
            have HE6 := Lib.hid hE6
            have hb6 := Nat.lt_of_lt_of_le HB.out HX.out.size
            have HOw6 : Hid (w6.ownsRow wc.heap.size 33 17 (.slice p5 l.length cap5) l.length (fcells l)) := Lib.hid ((ExtX.of_ext (b := b) HE6.out).owns HOw.out hb6)
            have hX6 := HX.out.trans (HXr.out.1.trans (.of_ext HE6.out))
            have HX6 := Lib.hid hX6
            have HS6 := Lib.hid (HXr.out.2.ext HE6.out)
            clear hE6 e30 hb6 hX6
            by_cases hlf : l.length = fnLo F
            · have HFit : Hid (fitsOf ((F : Int) + 1) ((l.length : Nat) : Int) = true) := Lib.hid (by rw [fits_at HF.out HLe.out, decide_eq_true hlf])
              rw [decide_eq_true hlf]
              have AP := Lib.hid (apply_any ((F : Int) + 1) (.slice p5 l.length cap5) l ts wc.heap.size (fun g => W.heap.size < g) w6 HOw6.out HLT.out (Nat.le_trans (Nat.le_of_lt (Int.ofNat_lt.1 hn9)) (by decide))
                (fun i t f h1 h2 => ((HRp.out i t f h1 h2).ext HE6.out).imp' (fun g hg _ => hg.1)) (fun g hg => Nat.lt_of_lt_of_le (Nat.lt_of_lt_of_le (blk_lt HG.out) (HXr.out.1.trans (.of_ext HE6.out)).size) hg))
              have HN9 := Lib.hid (Int.ofNat_lt.1 hn9)
              clear hlf
              go_wp2_with fail
              refine AP.out.mono ?_
              rintro e' w7 ⟨⟨f1, rfl, hR1⟩, hE7⟩
              have HE7 := Lib.hid hE7
              have HR1 := Lib.hid hR1
              have hg := HE7.out.blk ((HXr.out.1.trans (.of_ext HE6.out)).blk HG.out (Nat.ne_of_gt HB.out))
              clear hE7 hR1 AP
              unfold Fl.val
              go_wp2_with (first | ((with_reducible refine wpl_guard (isStore 33) ?_ ?_); (· rfl); refine wpl_store (t := ?_) (old := ?_) (w' := ?_) rfl 33 _ _ rfl rfl rfl ?_ ?_ ?_ ?_ ?_ ?_; rotate_left 2; (· (first | (with_reducible assumption) | (simp (disch := (first | omega | (simp only [World.size_alloc, World.size_setCell, World.size_drew, size_setRow]; done) | (simp only [World.size_alloc, World.size_setCell, World.size_drew, size_setRow]; omega))) only [hq_at, hq_past, hq_drew, hq_drewN, hq_cell, hq_row, hq_same, rowOf_cells, Option.map_some, *]; rfl) | (simp (disch := (first | omega | (simp only [World.size_alloc, World.size_setCell, World.size_drew, size_setRow]; done) | (simp only [World.size_alloc, World.size_setCell, World.size_drew, size_setRow]; omega))) only [hq_at, hq_past, hq_drew, hq_drewN, hq_cell, hq_row, hq_same, rowOf_cells, Option.map_some, *]))); (· kernel_rfl); (· rfl); (· rfl); rotate_left 1; (· (first | (simp (disch := (first | omega | (simp only [World.size_alloc, World.size_setCell, World.size_drew, size_setRow]; done) | (simp only [World.size_alloc, World.size_setCell, World.size_drew, size_setRow]; omega))) only [setRow_at, setRow_past, setRow_drew]; rfl) | rfl))))
              exact for_end HB.out (HX6.out.trans (.of_ext HE7.out)) (HS6.out.ext HE7.out) hg HR1.out (.call e ((F : Int) + 1) ts (by rw [← HLT.out]; exact HFit.out) (by rw [← HLT.out]; exact Nat.le_of_lt HN9.out) HFt.out) rfl rfl
            · have hlt' : l.length + 1 ≤ fnLo F := Nat.lt_of_le_of_ne HLe.out hlf
              have HLT' := Lib.hid hlt'
              rw [decide_eq_false hlf]
              have I7 := Lib.hid (HIH.out e rfl b w6 HS6.out (HQ.out.extX HL.out HX6.out) HL.out (Nat.lt_of_lt_of_le HB.out HX6.out.size))
              have HN9 := Lib.hid (Int.ofNat_lt.1 hn9)
              have hd1 : ((e + 1 : Nat) : Int) - 1 = (e : Int) := pred_nat e
              have hdw : wrap64 (e : Int) = (e : Int) := fw0 (Nat.lt_of_le_of_lt (Nat.le_trans (Nat.le_succ e) HD.out) (by decide))
              clear hlf hlt'
              go_wp2_with fail
              refine I7.out.mono ?_
              rintro e' w7 ⟨⟨f1, t1, rfl, hR1, hF1⟩, hX7, hS7⟩
              have HX7 := Lib.hid hX7
              have HS7 := Lib.hid hS7
              have HR1 := Lib.hid hR1
              have HF1 := Lib.hid hF1
              have HOw7 : Hid (w7.ownsRow wc.heap.size 33 17 (.slice p5 l.length cap5) l.length (fcells l)) := Lib.hid (hX7.owns HOw6.out (Nat.lt_of_lt_of_le HB.out HX.out.size))
              have hbs := bs1 f1 w7
              clear hX7 hS7 hR1 hF1 I7
              unfold Fl.val
              go_wp2_with (first
                | ((with_reducible refine wpl_guard isBS ?_ ?_); (· rfl); refine wpl_bs rfl _ _ _ rfl ?_ (hbs) ?_; (· rfl))
                | ((with_reducible refine wpl_guard isApp ?_ ?_); (· rfl); refine app_node rfl _ _ rfl _ l rfl HOw7.out (Nat.le_trans (HXr.out.1.trans (.of_ext HE6.out)).size HX7.out.size) f1 rfl rfl (Nat.lt_trans HN9.out (by decide)) (fun v8 w8 hOw8 hg8 hl8 => ?_)))
              obtain ⟨p8, cap8, rfl⟩ := owned_form hOw8
              have HR8 := Lib.hid (call_round HB.out (blk_lt HG.out) HLT.out HOw.out HRp.out HXr.out.1 HE6.out HX7.out HS7.out HR1.out hg8 hl8)
              have HOw8 := Lib.hid hOw8
              obtain ⟨n8', hn8'⟩ : ∃ n, (l ++ [f1]).length = n := ⟨_, rfl⟩
              have HN8 := Lib.hid hn8'
              rw [hn8']
              rw [hn8'] at HOw8 HR8
              clear hOw8 hg8 hl8 hn8' hbs
              go_wp2_with fail
              exact ⟨⟨l ++ [f1], ts ++ [t1], by rw [List.length_append, List.length_append, HLT.out]; rfl, Lib.hid (by rw [List.length_append]; exact HLT'.out), Lib.hid (by rw [HN8.out]; exact HOw8.out), Lib.hid HR8.out.1, Lib.hid (fun t ht => by
                rcases List.mem_append.1 ht with h | h
                · exact HFt.out t h
                · rw [List.mem_singleton.1 h]; exact HF1.out), Lib.hid HR8.out.2⟩, by
                show 9 - n8' < 9 - l.length
                have h1 := HN8.out
                rw [List.length_append, List.length_singleton] at h1
                have h2 := HN9.out
                omega⟩
theorem formula (d : Nat) (h : d ≤ 100) : ForS d := by
  induction d with
  | zero => exact formula_any 0 h (fun e he => by cases he)
  | succ d ih => exact formula_any (d + 1) h (fun e he => by cases he; exact ih (by omega))
end Go.Proofs.YtbnebiobahajjaaGreatDoor
