/-
  lex: one: walk. Conditions: each theorem's own.
-/
import Derived.Test.YtffogjhjgmohiaaDoorLexA
import Derived.Deep.CutBlock
import Derived.Deep.DeepCutAuto
import Derived.Test.YtffogjhjgmohiaaDoorTreeN
namespace Go.Proofs.YtffogjhjgmohiaaDoor
open Go.RowKit
set_option linter.unusedVariables false
set_option linter.unusedSimpArgs false

def tokC (k : Nat) (t : List UInt8) (p : Nat) : Array Value := #[.int .i64 (k : Int), .string (mk t), .int .i64 (p : Int)]
/-- What one hands back. -/
def OneP (l : List UInt8) (w : World) (e : Ending) (w' : World) : Prop :=
  (∃ k t n, e = .returned (.tuple #[.agg (tokC k t 0), .int .i64 ((n : Nat) : Int)]) ∧ (match oneT l with
    | some (k', t', m) => k = k' ∧ t = t' ∧ n = m
    | none => n = 0)) ∧ Ext w w'
theorem onep_some {l : List UInt8} {w w' : World} {k : Nat} {t : List UInt8} {m : Nat} (h : oneT l = some (k, t, m)) (hE : Ext w w') {v : Value} (hv : v = .tuple #[.agg (tokC k t 0), .int .i64 (m : Int)]) : OneP l w (.returned v) w' :=
  ⟨⟨k, t, m, by rw [hv], by rw [h]; exact ⟨rfl, rfl, rfl⟩⟩, hE⟩
theorem onep_none {l : List UInt8} {w w' : World} {k : Nat} {t : List UInt8} (h : oneT l = none) (hE : Ext w w') {v : Value} (hv : v = .tuple #[.agg (tokC k t 0), .int .i64 0]) : OneP l w (.returned v) w' :=
  ⟨⟨k, t, 0, by rw [hv]; rfl, by rw [h]⟩, hE⟩
theorem take_ext (s : ByteArray) (n : Nat) : s.extract 0 n = mk (s.data.toList.take n) := by
  apply ByteArray.ext
  apply Array.ext'
  rw [ByteArray.data_extract, Array.toList_extract]
  show (s.data.toList.drop 0).take (n - 0) = _
  simp [mk]
theorem sl_head {s : ByteArray} {n : Nat} (h : n ≤ s.size) (w : World) : (Instr.slice 9 (.string s) none (some (.int .i64 (n : Int))) none).run Tryd.prog w = .ok (.string (mk (s.data.toList.take n))) w := by
  have hj : 0 ≤ (n : Int) ∧ (n : Int) ≤ (s.size : Int) := ⟨by omega, by omega⟩
  rw [← take_ext]
  simp [Instr.slice, Instr.sliceBounds, Instr.sliceBound, asIntOf, run_underlying Tryd.underlying9, hj]
  intro hc
  omega
/-- The end of one: its token lies in a block known whole. -/
theorem one_ret {l : List UInt8} {w W2 : World} {g : Nat} {cs : Array Value} {t : TypeId} {fr : Nat × Nat} {a : Act} {n : Value} (hp : a.tmps.getD 2 undef = .pointer (some ⟨g, 0, none⟩)) (hn : a.tmps.getD 3 undef = n)
    (hg : W2.heap[g]? = some (.cells cs t fr)) (hi : cs.size = 3) (hd : a.defers = []) (h : OneP l w (.returned (.tuple #[.agg cs, n])) W2) : bodyPost Tryd.prog Tryd.f23 (OneP l w) Exit.ret a W2 := by
  have hld := run_loadVar_row (P := Tryd.prog) W2 g t 61 cs fr _ hg Tryd.underlying61 rfl (by rw [hi]; kernel_rfl)
  refine bodyPost_ret (v := .tuple #[.agg cs, n]) ?_ hd h
  have hp' : a.tmps[2]?.getD undef = .pointer (some ⟨g, 0, none⟩) := by simpa using hp
  have hn' : a.tmps[3]?.getD undef = n := by simpa using hn
  unfold results
  rw [show Tryd.f23.results = #[.cell 2 61, .tmp 3] from Tryd.results23]
  simp [hp', hn', hld, asAddr, Sem.run_bind]
def signAll : ByteArray := ⟨#[60, 62, 32, 60, 61, 32, 62, 61, 32, 43, 32, 45, 32, 42, 32, 47, 32, 38, 32, 61, 32, 60, 32, 62, 32, 37, 32, 40, 32, 41, 32, 44, 32, 58]⟩
theorem sign_fields : Lib.fields signAll.data.toList = signLit := by decide +kernel
theorem sign_ascii : ∀ (j : Nat) b, signAll.data.toList[j]? = some b → b.toNat < 128 := by
  intro j b h
  have hall : (signAll.data.toList.all fun b => decide (b.toNat < 128)) = true := by decide +kernel
  exact of_decide_eq_true (List.all_eq_true.1 hall b (List.mem_of_getElem? h))
theorem sign_call (w : World) (ht : Tab w) : Calls Tryd.prog 21 #[.string signAll] w fun e w' => e = .returned (.slice (some ⟨w.heap.size, 0, none⟩) 16 16) ∧ w' = w.alloc (.cells (signLit.map fun l => Value.string ⟨l.toArray⟩).toArray 9) := by
  have h := Tryd.strings_Fields signAll w (by decide) sign_ascii ht
  rw [sign_fields] at h
  exact h
/-- Nothing among the first k of them fits. -/
theorem find_from {p : List UInt8 → Bool} {l : List (List UInt8)} {k : Nat} (hk : ∀ i, i < k → ∀ x, l[i]? = some x → p x = false) : l.find? p = (l.drop k).find? p := by
  induction k generalizing l with
  | zero => rfl
  | succ k ih =>
    cases l with
    | nil => simp
    | cons y l =>
      have h0 := hk 0 (by omega) y rfl
      rw [List.find?_cons_of_neg (by simp [h0]), List.drop_succ_cons]
      exact ih (fun i hi x hx => hk (i + 1) (by omega) x (by simpa using hx))
theorem find_hit {p : List UInt8 → Bool} {l : List (List UInt8)} {k : Nat} {x : List UInt8} (hk : ∀ i, i < k → ∀ x, l[i]? = some x → p x = false) (hx : l[k]? = some x) (hp : p x = true) : l.find? p = some x := by
  rw [find_from hk, List.drop_eq_getElem_cons (List.getElem?_eq_some_iff.1 hx).1, (List.getElem?_eq_some_iff.1 hx).2, List.find?_cons_of_pos hp]
theorem find_none {p : List UInt8 → Bool} {l : List (List UInt8)} {k : Nat} (hk : ∀ i, i < k → ∀ x, l[i]? = some x → p x = false) (h : l.length ≤ k) : l.find? p = none := by
  rw [find_from hk, List.drop_of_length_le h]; rfl
theorem find_more {p : List UInt8 → Bool} {l : List (List UInt8)} {k : Nat} {x : List UInt8} (hk : ∀ i, i < k → ∀ x, l[i]? = some x → p x = false) (hx : l[k]? = some x) (hp : p x = false) : ∀ i, i < k + 1 → ∀ x, l[i]? = some x → p x = false := by
  intro i hi y hy
  by_cases h : i = k
  · subst h; rw [hx] at hy; cases hy; exact hp
  · exact hk i (by omega) y hy
theorem err_at : ∀ k : Nat, k < 7 → ∃ x, errLit[k]? = some x ∧ errName ((k : Int) + 1) = mk x ∧ x.length ≤ 7 := by
  intro k hk
  match k, hk with
  | 0, _ => exact ⟨_, rfl, rfl, by decide⟩
  | 1, _ => exact ⟨_, rfl, rfl, by decide⟩
  | 2, _ => exact ⟨_, rfl, rfl, by decide⟩
  | 3, _ => exact ⟨_, rfl, rfl, by decide⟩
  | 4, _ => exact ⟨_, rfl, rfl, by decide⟩
  | 5, _ => exact ⟨_, rfl, rfl, by decide⟩
  | 6, _ => exact ⟨_, rfl, rfl, by decide⟩
theorem sign_at {k : Nat} (hk : k < 16) : ∃ x, signLit[k]? = some x ∧ x.length ≤ 2 := by
  have h : ∀ x ∈ signLit, x.length ≤ 2 := by decide
  exact ⟨_, List.getElem?_eq_getElem (show k < signLit.length from hk), h _ (List.getElem_mem _)⟩
set_option maxRecDepth 100000 in
set_option maxHeartbeats 8000000 in
theorem one_any (s : ByteArray) (w : World) (h1 : 1 ≤ s.size) (hs : s.size ≤ 1000) (ht : Tab w) :
    Calls Tryd.prog 23 #[.string s] w (OneP s.data.toList w) := by
  obtain ⟨W1, hW1, hE1, hG1, hL1, hS1⟩ := new_blk w #[.int .i64 0, .string ⟨#[]⟩, .int .i64 0] 61
  have HW1 := Lib.hid hW1
  have HE1 := Lib.hid hE1
  have HG1 := Lib.hid hG1
  have HT1 := Lib.hid (ht.ext hE1)
  have HLEN : Hid (s.data.toList.length = s.size) := Lib.hid (by simp)
  obtain ⟨c, hcs⟩ : ∃ c, s.data.toList[0]? = some c := ⟨_, List.getElem?_eq_getElem (by rw [HLEN.out]; omega)⟩
  have hix : ∀ w, (Instr.index 9 (.string s) (.int .i64 0)).run Tryd.prog w = .ok (.int .u8 (c.toNat : Int)) w := fun w => ix_at hcs w 0 rfl
  obtain ⟨l, hl⟩ : ∃ l, s.data.toList = c :: l := by
    cases hq : s.data.toList with
    | nil => rw [hq] at hcs; cases hcs
    | cons a l => rw [hq] at hcs; cases hcs; exact ⟨l, rfl⟩
  have HL := Lib.hid hl
  have hz : c.toNat < 256 := c.toNat_lt
  have HZ := Lib.hid hz
  obtain ⟨z, hz'⟩ : ∃ z, c.toNat = z := ⟨_, rfl⟩
  have HZ' := Lib.hid hz'
  rw [hz'] at hz hix
  have h0 : s[0]'h1 = c := Option.some.inj ((List.getElem?_eq_getElem (by rw [HLEN.out]; exact h1)).symm.trans hcs)
  have HS := Lib.hid hs
  clear hW1 hE1 hG1 hL1 hS1 ht hs hcs hl
  have hsz : (1 : Int) ≤ (s.size : Int) := by omega
  go_enter Tryd.func23, Tryd.ntmps23
  go_upto_region 1 with (fail)
  rw [HW1.out]
  clear HW1
  go_upto_region 2 with (fail)
  go_cut [15] (fun s15 wx => s15 = .bool (isNum c) ∧ wx = W1)
  case first =>
    go_wp2_with fail
    all_goals go_meet
    all_goals (case rel => exact ⟨congrArg Value.bool (by unfold isNum; rw [HZ'.out, Bool.eq_iff_iff]; simp only [Bool.or_eq_true, Bool.and_eq_true, decide_eq_true_eq, beq_iff_eq, reduceCtorEq, true_iff, false_iff]; omega), rfl⟩)
  case rest =>
    obtain ⟨rfl, rfl⟩ := hcut
    cases hnum : isNum c
    case true =>
      have HO : Hid (oneT s.data.toList = some (1, s.data.toList.take (runN isNum s.data.toList), runN isNum s.data.toList)) := Lib.hid (by rw [HL.out]; simp [oneT, hnum])
      obtain ⟨n, hn⟩ : ∃ n, runN isNum s.data.toList = n := ⟨_, rfl⟩
      have hle : n ≤ s.size := by rw [← hn, ← HLEN.out]; exact runN_le _ _
      have HR := Lib.hid (run_any _ isNum says_num s (by have := HS.out; omega) wc)
      rw [hn] at HO HR
      have hsl := sl_head hle
      clear hn hnum
      go_wp2_with fail
      refine HR.out.mono ?_
      rintro e w2 ⟨rfl, hE2⟩
      have hg2 := hE2.blk HG1.out
      have HX := Lib.hid (HE1.out.trans hE2)
      clear hE2
      go_wp2_with (first | ((with_reducible refine wpl_guard (isStore 61) ?_ ?_); (· rfl); refine wpl_store (t := ?_) (old := ?_) (w' := ?_) rfl 61 _ _ rfl rfl rfl ?_ ?_ ?_ ?_ ?_ ?_; rotate_left 2; (· (first | (with_reducible assumption) | (simp (disch := (first | omega | (simp only [World.size_alloc, World.size_setCell, World.size_drew, size_setRow]; done) | (simp only [World.size_alloc, World.size_setCell, World.size_drew, size_setRow]; omega))) only [hq_at, hq_past, hq_drew, hq_drewN, hq_cell, hq_row, hq_same, rowOf_cells, Option.map_some, *]; rfl) | (simp (disch := (first | omega | (simp only [World.size_alloc, World.size_setCell, World.size_drew, size_setRow]; done) | (simp only [World.size_alloc, World.size_setCell, World.size_drew, size_setRow]; omega))) only [hq_at, hq_past, hq_drew, hq_drewN, hq_cell, hq_row, hq_same, rowOf_cells, Option.map_some, *]))); (· kernel_rfl); (· rfl); (· rfl); rotate_left 1; (· (first | (simp (disch := (first | omega | (simp only [World.size_alloc, World.size_setCell, World.size_drew, size_setRow]; done) | (simp only [World.size_alloc, World.size_setCell, World.size_drew, size_setRow]; omega))) only [setRow_at, setRow_past, setRow_drew]; rfl) | rfl))))
      have hg9 : (w2.setRow w.heap.size (tokC 1 (s.data.toList.take n) 0)).heap[w.heap.size]? = some (.cells (tokC 1 (s.data.toList.take n) 0) 61 (0, 0)) := by rw [hq_same rfl, hg2]; rfl
      exact one_ret rfl rfl hg9 rfl rfl (onep_some HO.out (below_row HX.out (Nat.le_refl _)) rfl)
    case false =>
      have HN := Lib.hid hnum
      clear hnum
      by_cases h34 : z = 34
      · subst h34
        have h34' : (c.toNat == 34) = true := by rw [HZ'.out]; rfl
        obtain ⟨R, hR⟩ : ∃ R, textN l false [] 1 = R := ⟨_, rfl⟩
        have HO0 : Hid (oneT s.data.toList = if R.2 == 0 then none else some (2, R.1, R.2)) := Lib.hid (by rw [HL.out]; simp [oneT, HN.out, h34', hR])
        have HR := Lib.hid (text_any s wc h1 HS.out R (by rw [HL.out, List.drop_succ_cons, List.drop_zero]; exact hR))
        have hg2 := HG1.out
        have HX := HE1
        clear hR h34'
        go_wp2_with fail
        refine HR.out.mono ?_
        rintro e w2 ⟨rfl, rfl⟩
        go_wp2_with (first | ((with_reducible refine wpl_guard (isStore 61) ?_ ?_); (· rfl); refine wpl_store (t := ?_) (old := ?_) (w' := ?_) rfl 61 _ _ rfl rfl rfl ?_ ?_ ?_ ?_ ?_ ?_; rotate_left 2; (· (first | (with_reducible assumption) | (simp (disch := (first | omega | (simp only [World.size_alloc, World.size_setCell, World.size_drew, size_setRow]; done) | (simp only [World.size_alloc, World.size_setCell, World.size_drew, size_setRow]; omega))) only [hq_at, hq_past, hq_drew, hq_drewN, hq_cell, hq_row, hq_same, rowOf_cells, Option.map_some, *]; rfl) | (simp (disch := (first | omega | (simp only [World.size_alloc, World.size_setCell, World.size_drew, size_setRow]; done) | (simp only [World.size_alloc, World.size_setCell, World.size_drew, size_setRow]; omega))) only [hq_at, hq_past, hq_drew, hq_drewN, hq_cell, hq_row, hq_same, rowOf_cells, Option.map_some, *]))); (· kernel_rfl); (· rfl); (· rfl); rotate_left 1; (· (first | (simp (disch := (first | omega | (simp only [World.size_alloc, World.size_setCell, World.size_drew, size_setRow]; done) | (simp only [World.size_alloc, World.size_setCell, World.size_drew, size_setRow]; omega))) only [setRow_at, setRow_past, setRow_drew]; rfl) | rfl))))
        have hg9 : (w2.setRow w.heap.size (tokC 2 R.1 0)).heap[w.heap.size]? = some (.cells (tokC 2 R.1 0) 61 (0, 0)) := by rw [hq_same rfl, hg2]; rfl
        by_cases hR0 : R.2 = 0
        · have HO : oneT s.data.toList = none := by rw [HO0.out, hR0]; rfl
          exact one_ret rfl rfl hg9 rfl rfl (onep_none (k := 2) (t := R.1) HO (below_row HX.out (Nat.le_refl _)) (by rw [hR0]; rfl))
        · have HO : oneT s.data.toList = some (2, R.1, R.2) := by rw [HO0.out, if_neg (by simpa using hR0)]
          exact one_ret rfl rfl hg9 rfl rfl (onep_some HO (below_row HX.out (Nat.le_refl _)) rfl)
      have q34 : ((z : Int) == 34) = false := by rw [beq_eq_false_iff_ne]; omega
      have H34 : Hid ((c.toNat == 34) = false) := Lib.hid (by rw [HZ'.out, beq_eq_false_iff_ne]; exact h34)
      by_cases h35 : z = 35
      · have h35' : (c.toNat == 35) = true := by rw [HZ'.out, h35]; rfl
        have q35 : ((z : Int) == 35) = true := by rw [h35]; rfl
        have HO0 : Hid (oneT s.data.toList = (errLit.find? (fun x => x.isPrefixOf s.data.toList)).map (fun x => (5, x, x.length))) := Lib.hid (by rw [HL.out]; simp [oneT, HN.out, H34.out, h35'])
        clear h34 h35' h35
        go_wp2_with fail
        go_loopw [8, 9] (fun s8 _ wr => ∃ k : Nat, k ≤ 7 ∧ s8 = .int .i64 ((k : Int) + 1) ∧ Hid (∀ i, i < k → ∀ x, errLit[i]? = some x → x.isPrefixOf s.data.toList = false) ∧ Hid (Ext wc wr)) (fun s8 _ _ => 8 - (intOf s8).toNat)
        case atStart => exact ⟨0, Nat.zero_le _, rfl, Lib.hid (fun i hi => absurd hi (by omega)), Lib.hid (Ext.refl _)⟩
        case round =>
          obtain ⟨k, hk, rfl, HK, HXr⟩ := hrel
          by_cases hk7 : k = 7
          · subst hk7
            have HO : Hid (oneT s.data.toList = none) := Lib.hid (by rw [HO0.out, find_none HK.out (by decide)]; rfl)
            have hg2 := HXr.out.blk HG1.out
            have HX := Lib.hid (HE1.out.trans HXr.out)
            go_wp2_with (first | ((with_reducible refine wpl_guard (isStore 61) ?_ ?_); (· rfl); refine wpl_store (t := ?_) (old := ?_) (w' := ?_) rfl 61 _ _ rfl rfl rfl ?_ ?_ ?_ ?_ ?_ ?_; rotate_left 2; (· (first | (with_reducible assumption) | (simp (disch := (first | omega | (simp only [World.size_alloc, World.size_setCell, World.size_drew, size_setRow]; done) | (simp only [World.size_alloc, World.size_setCell, World.size_drew, size_setRow]; omega))) only [hq_at, hq_past, hq_drew, hq_drewN, hq_cell, hq_row, hq_same, rowOf_cells, Option.map_some, *]; rfl) | (simp (disch := (first | omega | (simp only [World.size_alloc, World.size_setCell, World.size_drew, size_setRow]; done) | (simp only [World.size_alloc, World.size_setCell, World.size_drew, size_setRow]; omega))) only [hq_at, hq_past, hq_drew, hq_drewN, hq_cell, hq_row, hq_same, rowOf_cells, Option.map_some, *]))); (· kernel_rfl); (· rfl); (· rfl); rotate_left 1; (· (first | (simp (disch := (first | omega | (simp only [World.size_alloc, World.size_setCell, World.size_drew, size_setRow]; done) | (simp only [World.size_alloc, World.size_setCell, World.size_drew, size_setRow]; omega))) only [setRow_at, setRow_past, setRow_drew]; rfl) | rfl))))
            have hg9 : (wr.setRow w.heap.size (tokC 0 [] 0)).heap[w.heap.size]? = some (.cells (tokC 0 [] 0) 61 (0, 0)) := by rw [hq_same rfl, hg2]; rfl
            exact one_ret rfl rfl hg9 rfl rfl (onep_none (k := 0) (t := []) HO.out (below_row HX.out (Nat.le_refl _)) rfl)
          have hk7' : k < 7 := by omega
          have hkI : (k : Int) < 7 := by omega
          have hk0 : (0 : Int) ≤ (k : Int) := by omega
          obtain ⟨x, hx1, hx2, hx3⟩ := err_at k hk7'
          have EN := ename_any ((k : Int) + 1) wr (HT1.out.ext HXr.out)
          rw [hx2] at EN
          have EN := Lib.hid EN
          have HX1 := Lib.hid hx1
          have HXL : Hid (x.length ≤ 7) := Lib.hid hx3
          have HK7 := Lib.hid hk7'
          clear hx1 hx2 hx3
          go_wp2_with fail
          refine EN.out.mono ?_
          rintro e w3 ⟨rfl, hE3⟩
          have HX3 := Lib.hid (HXr.out.trans hE3)
          clear hE3
          go_wp2_with fail
          refine (Tryd.strings_HasPrefix s (mk x) w3).mono ?_
          rintro e w4 ⟨rfl, rfl⟩
          rw [show Lib.hasPrefix s.data.toList (mk x).data.toList = x.isPrefixOf s.data.toList by rw [mk_list]; rfl]
          obtain ⟨b, hb⟩ : ∃ b, x.isPrefixOf s.data.toList = b := ⟨_, rfl⟩
          rw [hb]
          have HB := Lib.hid hb
          clear hb
          cases b
          · go_wp2_with fail
            go_roundw
            case rel => exact ⟨k + 1, HK7.out, rfl, Lib.hid (find_more HK.out HX1.out HB.out), HX3⟩
            case measure => have := HK7.out; simp [intOf]; omega
          · have HO : Hid (oneT s.data.toList = some (5, x, x.length)) := Lib.hid (by rw [HO0.out, find_hit HK.out HX1.out HB.out]; rfl)
            have hg2 := HX3.out.blk HG1.out
            have HX := Lib.hid (HE1.out.trans HX3.out)
            have hmz : ((mk x).size : Int) = (x.length : Int) := by rw [mk_size]
            go_wp2_with (first | ((with_reducible refine wpl_guard (isStore 61) ?_ ?_); (· rfl); refine wpl_store (t := ?_) (old := ?_) (w' := ?_) rfl 61 _ _ rfl rfl rfl ?_ ?_ ?_ ?_ ?_ ?_; rotate_left 2; (· (first | (with_reducible assumption) | (simp (disch := (first | omega | (simp only [World.size_alloc, World.size_setCell, World.size_drew, size_setRow]; done) | (simp only [World.size_alloc, World.size_setCell, World.size_drew, size_setRow]; omega))) only [hq_at, hq_past, hq_drew, hq_drewN, hq_cell, hq_row, hq_same, rowOf_cells, Option.map_some, *]; rfl) | (simp (disch := (first | omega | (simp only [World.size_alloc, World.size_setCell, World.size_drew, size_setRow]; done) | (simp only [World.size_alloc, World.size_setCell, World.size_drew, size_setRow]; omega))) only [hq_at, hq_past, hq_drew, hq_drewN, hq_cell, hq_row, hq_same, rowOf_cells, Option.map_some, *]))); (· kernel_rfl); (· rfl); (· rfl); rotate_left 1; (· (first | (simp (disch := (first | omega | (simp only [World.size_alloc, World.size_setCell, World.size_drew, size_setRow]; done) | (simp only [World.size_alloc, World.size_setCell, World.size_drew, size_setRow]; omega))) only [setRow_at, setRow_past, setRow_drew]; rfl) | rfl))))
            have hg9 : (w4.setRow w.heap.size (tokC 5 x 0)).heap[w.heap.size]? = some (.cells (tokC 5 x 0) 61 (0, 0)) := by rw [hq_same rfl, hg2]; rfl
            exact one_ret rfl rfl hg9 rfl rfl (onep_some HO.out (below_row HX.out (Nat.le_refl _)) rfl)
      have q35 : ((z : Int) == 35) = false := by rw [beq_eq_false_iff_ne]; omega
      have H35 : Hid ((c.toNat == 35) = false) := Lib.hid (by rw [HZ'.out, beq_eq_false_iff_ne]; exact h35)
      by_cases hw : (isWrd c && c.toNat != 33) = true
      · have hw1 : isWrd c = true := by simp only [Bool.and_eq_true] at hw; exact hw.1
        have hw2 : z ≠ 33 := by simp only [Bool.and_eq_true, bne_iff_ne] at hw; rw [HZ'.out] at hw; exact hw.2
        have HO : Hid (oneT s.data.toList = some (3, s.data.toList.take (runN isWrd s.data.toList), runN isWrd s.data.toList)) := Lib.hid (by rw [HL.out]; unfold oneT; simp only [HN.out, H34.out, H35.out, hw, if_true, Bool.false_eq_true, if_false])
        obtain ⟨n, hn⟩ : ∃ n, runN isWrd s.data.toList = n := ⟨_, rfl⟩
        have hle : n ≤ s.size := by rw [← hn, ← HLEN.out]; exact runN_le _ _
        have HR := Lib.hid (fun w => run_any _ isWrd says_word s (by have := HS.out; omega) w)
        rw [hn] at HO HR
        have hsl := sl_head hle
        have HW := isword_any c wc
        rw [hw1, HZ'.out] at HW
        have HW := Lib.hid HW
        have q33 : ((z : Int) != 33) = true := by rw [bne_iff_ne]; omega
        clear hn hw hw1 hw2 h34 h35
        go_wp2_with fail
        refine HW.out.mono ?_
        rintro e w2 ⟨rfl, hE2⟩
        have HX2 := Lib.hid hE2
        clear hE2
        go_wp2_with fail
        refine (HR.out w2).mono ?_
        rintro e w3 ⟨rfl, hE3⟩
        have hg2 := (HX2.out.trans hE3).blk HG1.out
        have HX := Lib.hid (HE1.out.trans (HX2.out.trans hE3))
        clear hE3
        go_wp2_with (first | ((with_reducible refine wpl_guard (isStore 61) ?_ ?_); (· rfl); refine wpl_store (t := ?_) (old := ?_) (w' := ?_) rfl 61 _ _ rfl rfl rfl ?_ ?_ ?_ ?_ ?_ ?_; rotate_left 2; (· (first | (with_reducible assumption) | (simp (disch := (first | omega | (simp only [World.size_alloc, World.size_setCell, World.size_drew, size_setRow]; done) | (simp only [World.size_alloc, World.size_setCell, World.size_drew, size_setRow]; omega))) only [hq_at, hq_past, hq_drew, hq_drewN, hq_cell, hq_row, hq_same, rowOf_cells, Option.map_some, *]; rfl) | (simp (disch := (first | omega | (simp only [World.size_alloc, World.size_setCell, World.size_drew, size_setRow]; done) | (simp only [World.size_alloc, World.size_setCell, World.size_drew, size_setRow]; omega))) only [hq_at, hq_past, hq_drew, hq_drewN, hq_cell, hq_row, hq_same, rowOf_cells, Option.map_some, *]))); (· kernel_rfl); (· rfl); (· rfl); rotate_left 1; (· (first | (simp (disch := (first | omega | (simp only [World.size_alloc, World.size_setCell, World.size_drew, size_setRow]; done) | (simp only [World.size_alloc, World.size_setCell, World.size_drew, size_setRow]; omega))) only [setRow_at, setRow_past, setRow_drew]; rfl) | rfl))))
        have hg9 : (w3.setRow w.heap.size (tokC 3 (s.data.toList.take n) 0)).heap[w.heap.size]? = some (.cells (tokC 3 (s.data.toList.take n) 0) 61 (0, 0)) := by rw [hq_same rfl, hg2]; rfl
        exact one_ret rfl rfl hg9 rfl rfl (onep_some HO.out (below_row HX.out (Nat.le_refl _)) rfl)
      have HO0 : Hid (oneT s.data.toList = (signLit.find? (fun x => x.isPrefixOf s.data.toList)).map (fun x => (4, x, x.length))) := Lib.hid (by rw [HL.out]; unfold oneT; simp only [HN.out, H34.out, H35.out, hw, Bool.false_eq_true, if_false])
      have HW : Hid ((isWrd c && c.toNat != 33) = false) := Lib.hid (by simpa using hw)
      have q33 : isWrd c = true → ((z : Int) != 33) = false := fun h => by
        have := HW.out
        rw [h, Bool.true_and, bne_eq_false_iff_eq, HZ'.out] at this
        rw [bne_eq_false_iff_eq]; omega
      have HQ33 := Lib.hid q33
      clear q33 hw h34 h35
      go_upto_region 16 with (fail)
      obtain ⟨W2, hW2⟩ : ∃ W2, W2 = wc := ⟨_, rfl⟩
      subst hW2
      go_cut [61] (fun s61 wx => s61 = .bool false ∧ Hid (Ext W2 wx))
      case first =>
        obtain ⟨b, hb⟩ : ∃ b, isWrd c = b := ⟨_, rfl⟩
        have HW := isword_any c W2
        rw [hb, HZ'.out] at HW
        have HW := Lib.hid HW
        cases b
        · clear hb
          go_wp2_with fail
          refine HW.out.mono ?_
          rintro e w2 ⟨rfl, hE2⟩
          have HX2 := Lib.hid hE2
          clear hE2
          go_wp2_with fail
          go_meet
          case rel => exact ⟨rfl, HX2⟩
        · have q33 := HQ33.out hb
          clear hb
          go_wp2_with fail
          refine HW.out.mono ?_
          rintro e w2 ⟨rfl, hE2⟩
          have HX2 := Lib.hid hE2
          clear hE2
          go_wp2_with fail
          go_meet
          case rel => exact ⟨rfl, HX2⟩
      case rest =>
        obtain ⟨rfl, HXc⟩ := hcut
        have SC := Lib.hid (sign_call wc (HT1.out.ext HXc.out))
        go_wp2_with fail
        refine SC.out.mono ?_
        rintro e w2 ⟨rfl, hw2⟩
        have HX2 : Hid (Ext W2 w2) := Lib.hid (by rw [hw2]; exact HXc.out.trans (below_alloc1 _ _))
        have HGS : Hid (w2.heap[wc.heap.size]? = some (.cells (signLit.map fun l => Value.string ⟨l.toArray⟩).toArray 9 (0, 0))) := Lib.hid (by rw [hw2]; exact hq_at _ _ rfl)
        clear hw2
        go_wp2_with fail
        go_loopw [12, 77] (fun _ si wr => ∃ k : Nat, k ≤ 16 ∧ si = .int .i64 (k : Int) ∧ Hid (∀ i, i < k → ∀ x, signLit[i]? = some x → x.isPrefixOf s.data.toList = false) ∧ Hid (Ext w2 wr)) (fun _ si _ => 16 - (intOf si).toNat)
        case atStart => exact ⟨0, Nat.zero_le _, rfl, Lib.hid (fun i hi => absurd hi (by omega)), Lib.hid (Ext.refl _)⟩
        case round =>
          obtain ⟨k, hk, rfl, HK, HXr⟩ := hrel
          by_cases hk7 : k = 16
          · subst hk7
            have HO : Hid (oneT s.data.toList = none) := Lib.hid (by rw [HO0.out, find_none HK.out (by decide)]; rfl)
            have hg2 := (HX2.out.trans HXr.out).blk HG1.out
            have HX := Lib.hid (HE1.out.trans (HX2.out.trans HXr.out))
            go_wp2_with (first | ((with_reducible refine wpl_guard (isStore 61) ?_ ?_); (· rfl); refine wpl_store (t := ?_) (old := ?_) (w' := ?_) rfl 61 _ _ rfl rfl rfl ?_ ?_ ?_ ?_ ?_ ?_; rotate_left 2; (· (first | (with_reducible assumption) | (simp (disch := (first | omega | (simp only [World.size_alloc, World.size_setCell, World.size_drew, size_setRow]; done) | (simp only [World.size_alloc, World.size_setCell, World.size_drew, size_setRow]; omega))) only [hq_at, hq_past, hq_drew, hq_drewN, hq_cell, hq_row, hq_same, rowOf_cells, Option.map_some, *]; rfl) | (simp (disch := (first | omega | (simp only [World.size_alloc, World.size_setCell, World.size_drew, size_setRow]; done) | (simp only [World.size_alloc, World.size_setCell, World.size_drew, size_setRow]; omega))) only [hq_at, hq_past, hq_drew, hq_drewN, hq_cell, hq_row, hq_same, rowOf_cells, Option.map_some, *]))); (· kernel_rfl); (· rfl); (· rfl); rotate_left 1; (· (first | (simp (disch := (first | omega | (simp only [World.size_alloc, World.size_setCell, World.size_drew, size_setRow]; done) | (simp only [World.size_alloc, World.size_setCell, World.size_drew, size_setRow]; omega))) only [setRow_at, setRow_past, setRow_drew]; rfl) | rfl))))
            have hg9 : (wr.setRow w.heap.size (tokC 0 [] 0)).heap[w.heap.size]? = some (.cells (tokC 0 [] 0) 61 (0, 0)) := by rw [hq_same rfl, hg2]; rfl
            exact one_ret rfl rfl hg9 rfl rfl (onep_none (k := 0) (t := []) HO.out (below_row HX.out (Nat.le_refl _)) rfl)
          have hk7' : k < 16 := by omega
          have hkI : (k : Int) < 16 := by omega
          have hk0 : (0 : Int) ≤ (k : Int) := by omega
          obtain ⟨x, hx1, hx3⟩ := sign_at hk7'
          have hcx : wr.cell? ⟨wc.heap.size, k, none⟩ = some (.string (mk x)) := by
            rw [cell_of_row wr wc.heap.size k _ _ _ (HXr.out.blk HGS.out), List.getElem?_toArray, List.getElem?_map, hx1]
            rfl
          have HX1 := Lib.hid hx1
          have HK7 := Lib.hid hk7'
          clear hx1 hx3
          go_wp2_with fail
          refine (Tryd.strings_HasPrefix s (mk x) wr).mono ?_
          rintro e w4 ⟨rfl, rfl⟩
          rw [show Lib.hasPrefix s.data.toList (mk x).data.toList = x.isPrefixOf s.data.toList by rw [mk_list]; rfl]
          obtain ⟨b, hb⟩ : ∃ b, x.isPrefixOf s.data.toList = b := ⟨_, rfl⟩
          rw [hb]
          have HB := Lib.hid hb
          clear hb
          cases b
          · go_wp2_with fail
            go_roundw
            case rel => exact ⟨k + 1, HK7.out, rfl, Lib.hid (find_more HK.out HX1.out HB.out), HXr⟩
            case measure => have := HK7.out; simp [intOf]; omega
          · have HO : Hid (oneT s.data.toList = some (4, x, x.length)) := Lib.hid (by rw [HO0.out, find_hit HK.out HX1.out HB.out]; rfl)
            have hg2 := (HX2.out.trans HXr.out).blk HG1.out
            have HX := Lib.hid (HE1.out.trans (HX2.out.trans HXr.out))
            have hmz : ((mk x).size : Int) = (x.length : Int) := by rw [mk_size]
            go_wp2_with (first | ((with_reducible refine wpl_guard (isStore 61) ?_ ?_); (· rfl); refine wpl_store (t := ?_) (old := ?_) (w' := ?_) rfl 61 _ _ rfl rfl rfl ?_ ?_ ?_ ?_ ?_ ?_; rotate_left 2; (· (first | (with_reducible assumption) | (simp (disch := (first | omega | (simp only [World.size_alloc, World.size_setCell, World.size_drew, size_setRow]; done) | (simp only [World.size_alloc, World.size_setCell, World.size_drew, size_setRow]; omega))) only [hq_at, hq_past, hq_drew, hq_drewN, hq_cell, hq_row, hq_same, rowOf_cells, Option.map_some, *]; rfl) | (simp (disch := (first | omega | (simp only [World.size_alloc, World.size_setCell, World.size_drew, size_setRow]; done) | (simp only [World.size_alloc, World.size_setCell, World.size_drew, size_setRow]; omega))) only [hq_at, hq_past, hq_drew, hq_drewN, hq_cell, hq_row, hq_same, rowOf_cells, Option.map_some, *]))); (· kernel_rfl); (· rfl); (· rfl); rotate_left 1; (· (first | (simp (disch := (first | omega | (simp only [World.size_alloc, World.size_setCell, World.size_drew, size_setRow]; done) | (simp only [World.size_alloc, World.size_setCell, World.size_drew, size_setRow]; omega))) only [setRow_at, setRow_past, setRow_drew]; rfl) | rfl))))
            have hg9 : (w4.setRow w.heap.size (tokC 4 x 0)).heap[w.heap.size]? = some (.cells (tokC 4 x 0) 61 (0, 0)) := by rw [hq_same rfl, hg2]; rfl
            exact one_ret rfl rfl hg9 rfl rfl (onep_some HO.out (below_row HX.out (Nat.le_refl _)) rfl)
theorem textN_le : ∀ (l : List UInt8) (q : Bool) (o : List UInt8) (i : Nat), (textN l q o i).2 ≤ i + l.length ∧ (textN l q o i).1.length ≤ o.length + l.length
  | [], q, o, i => by
    unfold textN
    split <;> simp
  | c :: l, false, o, i => by
    have h1 := textN_le l true o (i + 1)
    have h2 := textN_le l false (o ++ [c]) (i + 1)
    rw [List.length_append, List.length_singleton] at h2
    rw [List.length_cons]
    unfold textN
    by_cases h : (c.toNat == 34) = true
    · rw [if_pos h]; exact ⟨by omega, by omega⟩
    · rw [if_neg h]; exact ⟨by omega, by omega⟩
  | c :: l, true, o, i => by
    have h2 := textN_le l false (o ++ [34]) (i + 1)
    rw [List.length_append, List.length_singleton] at h2
    rw [List.length_cons]
    unfold textN
    by_cases h : (c.toNat == 34) = true
    · rw [if_pos h]; exact ⟨by omega, by omega⟩
    · rw [if_neg h]; exact ⟨by show i ≤ _; omega, by show o.length ≤ _; omega⟩
theorem prefix_len {x s : List UInt8} (h : x.isPrefixOf s = true) : x.length ≤ s.length := (List.isPrefixOf_iff_prefix.1 h).length_le
theorem oneT_facts {s : List UInt8} {k : Nat} {t : List UInt8} {m : Nat} (h : oneT s = some (k, t, m)) : 1 ≤ m ∧ m ≤ s.length ∧ t.length ≤ s.length ∧ 1 ≤ k ∧ k ≤ 5 := by
  cases s with
  | nil => cases h
  | cons c l =>
    unfold oneT at h
    simp only at h
    split at h
    · rename_i hc
      cases h
      have h1 := runN_le isNum (c :: l)
      refine ⟨?_, h1, by rw [List.length_take]; omega, by omega, by omega⟩
      unfold runN
      rw [if_pos hc]; omega
    · split at h
      · split at h
        · cases h
        · rename_i h0
          cases h
          have h1 := textN_le l false [] 1
          simp only [List.length_nil] at h1
          simp only [List.length_cons]
          have : (textN l false [] 1).2 ≠ 0 := by simpa using h0
          exact ⟨by omega, by omega, by omega, by omega, by omega⟩
      · split at h
        · obtain ⟨x, hx, e⟩ := Option.map_eq_some_iff.1 h
          cases e
          have h1 : ∀ x ∈ errLit, 1 ≤ x.length := by decide
          have h2 := prefix_len (List.find?_some (p := fun x : List UInt8 => x.isPrefixOf (c :: l)) hx)
          exact ⟨h1 _ (List.mem_of_find?_eq_some hx), h2, h2, by omega, by omega⟩
        · split at h
          · rename_i hc
            cases h
            have h1 := runN_le isWrd (c :: l)
            refine ⟨?_, h1, by rw [List.length_take]; omega, by omega, by omega⟩
            unfold runN
            simp only [Bool.and_eq_true] at hc
            rw [if_pos hc.1]; omega
          · obtain ⟨x, hx, e⟩ := Option.map_eq_some_iff.1 h
            cases e
            have h1 : ∀ x ∈ signLit, 1 ≤ x.length := by decide
            have h2 := prefix_len (List.find?_some (p := fun x : List UInt8 => x.isPrefixOf (c :: l)) hx)
            exact ⟨h1 _ (List.mem_of_find?_eq_some hx), h2, h2, by omega, by omega⟩
/-- The cells of tokens, one behind the other. -/
def tcells (l : List Tok) : List Value := l.flatMap (fun t => (tokC t.k t.s t.p).toList)
theorem tcells_len (l : List Tok) : (tcells l).length = l.length * 3 := by
  induction l with
  | nil => rfl
  | cons t l ih =>
    have e : tcells (t :: l) = (tokC t.k t.s t.p).toList ++ tcells l := rfl
    rw [e, List.length_append, ih, List.length_cons]
    simp only [tokC, List.length_cons, List.length_nil]
    omega
theorem tcells_app (l : List Tok) (t : Tok) : tcells (l ++ [t]) = tcells l ++ (tokC t.k t.s t.p).toList := by simp [tcells]
theorem tok_info : (Tryd.prog.info? 61).map (fun i => (i.zero, i.size, i.bytes)) = some (some (.agg #[.int .i64 0, .string ⟨#[]⟩, .int .i64 0]), 3, 32) := by kernel_rfl
set_option maxRecDepth 100000 in
/-- A token put behind. -/
theorem app_tok {base : Nat} {w : World} {ops : Array Oper} {rest : List Oper} {o : Oper} {a : Act} {Q : Exit → Act → World → Prop} (hgd : o.guard = none) (s x : Operand)
    (ho : o.op = .call { callee := .builtin .append, args := #[s, x], argTypes := #[47, 47] }) (v : Value) (l : List Tok) (hs : a.eval s = v)
    (hown : w.ownsRow base 61 3 v l.length (tcells l)) (hb : base ≤ w.heap.size) (t : Tok)
    {ad : Addr} (hx : a.eval x = .slice (some ad) 1 1) (had : ad = ⟨w.heap.size, 0, none⟩) (hlen : l.length < 1000000)
    (h : ∀ v' w', w'.ownsRow base 61 3 v' (l ++ [t]).length (tcells (l ++ [t])) → (w.alloc (.cells (tokC t.k t.s t.p) 61)).grownBy w' v.ownBlock → (v'.ownBlock = v.ownBlock ∨ v'.ownBlock = some (w.heap.size + 1)) → wpList Tryd.prog ops Q rest (a.put o.dst v') w') :
    wpList Tryd.prog ops Q (o :: rest) a (w.alloc (.cells (tokC t.k t.s t.p) 61)) := by
  obtain ⟨i0, hi, hz0, hz1, hz2⟩ : ∃ i, Tryd.prog.info? 61 = some i ∧ i.zero = some (.agg #[.int .i64 0, .string ⟨#[]⟩, .int .i64 0]) ∧ i.size = 3 ∧ i.bytes = 32 := by
    have h := tok_info
    cases hq : Tryd.prog.info? 61 with
    | none => rw [hq] at h; cases h
    | some i =>
      rw [hq] at h
      simp only [Option.map_some, Option.some.injEq, Prod.mk.injEq] at h
      exact ⟨i, rfl, h.1, h.2.1, h.2.2⟩
  subst had
  have hone : ∀ u ∈ (tokC t.k t.s t.p).toList, u.oneCell' = true := by
    have h : (tokC t.k t.s t.p).toList.all (·.oneCell') = true := rfl
    exact fun u hu => List.all_eq_true.1 h u hu
  refine wpList_append_lies _ hgd s x 47 ho base 61 i0 _ 3 32 Tryd.underlying47 hi hz0 hz1 hz2 rfl (by decide) v _ _ hs (hown.alloc _) ⟨w.heap.size, 0, none⟩ 1 1 (tokC t.k t.s t.p).toList hx rfl ?c1 hone (by decide) ?c3 ?c4 ?c5 _ rfl ?_
  case c1 =>
    intro j u hj
    have hadd : (⟨w.heap.size, 0, none⟩ : Addr).add j = ⟨w.heap.size, j, none⟩ := by unfold Addr.add; split <;> simp_all
    rw [hadd, cell_of_row _ w.heap.size j (tokC t.k t.s t.p) 61 (0, 0) (hq_at _ _ rfl)]
    simpa using hj
  case c3 => unfold maxLen; omega
  case c4 => omega
  case c5 => simp; omega
  intro g cap w' h1 h2 h3 _
  refine h _ w' ?_ h2 ?_
  · rw [tcells_app]
    simpa using h1
  · rcases h3 with h3 | h3
    · exact .inl h3.symm
    · right
      rw [h3]
      simp [Value.ownBlock]
theorem ext_grown {W w w' : World} (h : Ext W w) {row : Option Nat} (hg : w.grownBy w' row) (hr : ∀ k, row = some k → W.heap.size ≤ k) : Ext W w' :=
  ⟨hg.os.trans h.os, hg.tape.trans h.tape, hg.output.trans h.output, Nat.le_trans h.size hg.size, fun k hk => (hg.block k (Nat.lt_of_lt_of_le hk h.size) (fun e => by have := hr k e.symm; omega)).trans (h.block k hk)⟩
theorem bsT (k : Nat) (t : List UInt8) (p : Nat) (w : World) : (Instr.buildSlice 47 1 [(0, Value.agg (tokC k t p))].toArray).run Tryd.prog w = .ok (.slice (some ⟨w.heap.size, 0, none⟩) 1 1) (w.alloc (.cells (tokC k t p) 61)) := by kernel_rfl
theorem drop_ext (s : ByteArray) (n : Nat) : s.extract n s.size = mk (s.data.toList.drop n) := by
  apply ByteArray.ext
  apply Array.ext'
  rw [ByteArray.data_extract, Array.toList_extract]
  show (s.data.toList.drop n).take (s.size - n) = _
  rw [List.take_of_length_le (by simp)]
  simp [mk]
theorem sl_tail {s : ByteArray} {n : Nat} (h : n ≤ s.size) (w : World) : (Instr.slice 9 (.string s) (some (.int .i64 (n : Int))) none none).run Tryd.prog w = .ok (.string (mk (s.data.toList.drop n))) w := by
  have hj : 0 ≤ (n : Int) ∧ (n : Int) ≤ (s.size : Int) := ⟨by omega, by omega⟩
  rw [← drop_ext]
  simp [Instr.slice, Instr.sliceBounds, Instr.sliceBound, asIntOf, run_underlying Tryd.underlying9, hj]
  intro hc
  omega
/-! ### The loop, in plain words -/
theorem lexF_nil (n i : Nat) : lexF n [] i = .ok [] := by cases n <;> rfl
/-- Byte i is next, so many tokens were read. -/
def LxAt (s : List UInt8) (R : Except Nat (List Tok)) (i : Nat) (o : List Tok) : Prop := i ≤ s.length ∧ o.length ≤ i ∧ (∀ t ∈ o, t.s.length ≤ s.length ∧ t.p ≤ s.length) ∧ ∃ n, (s.drop i).length < n ∧
  (match lexF n (s.drop i) i with
    | .ok ts => R = .ok (o ++ ts)
    | .error e => R = .error e)
theorem lx_start (s : List UInt8) : LxAt s (lexAll s) 0 [] := ⟨Nat.zero_le _, Nat.le_refl _, fun t ht => (by cases ht), s.length + 1, by simp, by
  rw [List.drop_zero]
  unfold lexAll
  cases lexF (s.length + 1) s 0 <;> rfl⟩
theorem lx_end {s : List UInt8} {R : Except Nat (List Tok)} {i : Nat} {o : List Tok} (h : LxAt s R i o) (hi : s.length ≤ i) : R = .ok o := by
  obtain ⟨-, -, -, n, -, hR⟩ := h
  rw [List.drop_of_length_le hi, lexF_nil] at hR
  simpa using hR
theorem lx_blank {s : List UInt8} {R : Except Nat (List Tok)} {i : Nat} {o : List Tok} {c : UInt8} (h : LxAt s R i o) (hc : s[i]? = some c) (h32 : (c.toNat == 32) = true) : LxAt s R (i + 1) o := by
  have hi := (List.getElem?_eq_some_iff.1 hc).1
  obtain ⟨h1, h2, h3, n, hn, hR⟩ := h
  rw [List.drop_eq_getElem_cons hi, (List.getElem?_eq_some_iff.1 hc).2] at hR hn
  cases n with
  | zero => omega
  | succ n =>
    unfold lexF at hR
    rw [if_pos h32] at hR
    exact ⟨by omega, by omega, h3, n, by simpa using hn, hR⟩
theorem lx_err {s : List UInt8} {R : Except Nat (List Tok)} {i : Nat} {o : List Tok} {c : UInt8} (h : LxAt s R i o) (hc : s[i]? = some c) (h32 : (c.toNat == 32) = false) (h0 : oneT (s.drop i) = none) : R = .error i := by
  have hi := (List.getElem?_eq_some_iff.1 hc).1
  obtain ⟨h1, h2, h3, n, hn, hR⟩ := h
  rw [List.drop_eq_getElem_cons hi, (List.getElem?_eq_some_iff.1 hc).2] at hR hn h0
  cases n with
  | zero => omega
  | succ n =>
    unfold lexF at hR
    rw [if_neg (by rw [h32]; decide), h0] at hR
    exact hR
theorem lx_tok {s : List UInt8} {R : Except Nat (List Tok)} {i : Nat} {o : List Tok} {c : UInt8} {k m : Nat} {t : List UInt8} (h : LxAt s R i o) (hc : s[i]? = some c) (h32 : (c.toNat == 32) = false) (h0 : oneT (s.drop i) = some (k, t, m)) : LxAt s R (i + m) (o ++ [⟨k, t, i⟩]) ∧ 1 ≤ m ∧ i + m ≤ s.length := by
  have hi := (List.getElem?_eq_some_iff.1 hc).1
  have hf := oneT_facts h0
  rw [List.length_drop] at hf
  obtain ⟨h1, h2, h3, n, hn, hR⟩ := h
  have e : s.drop i = c :: s.drop (i + 1) := by rw [List.drop_eq_getElem_cons hi, (List.getElem?_eq_some_iff.1 hc).2]
  rw [e] at hR hn h0
  cases n with
  | zero => omega
  | succ n =>
    unfold lexF at hR
    rw [if_neg (by rw [h32]; decide), h0] at hR
    simp only at hR
    rw [← e, List.drop_drop] at hR
    refine ⟨⟨by omega, by simp only [List.length_append, List.length_singleton]; omega, fun u hu => ?_, n, ?_, ?_⟩, by omega, by omega⟩
    · rcases List.mem_append.1 hu with h | h
      · exact h3 u h
      · obtain rfl := List.mem_singleton.1 h
        exact ⟨by show t.length ≤ _; omega, by show i ≤ _; omega⟩
    · rw [← e, List.length_drop] at hn
      rw [List.length_drop]
      omega
    · cases hq : lexF n (s.drop (i + m)) (i + m) with
      | ok ts => rw [hq] at hR; simp only at hR ⊢; rw [hR]; simp
      | error e => rw [hq] at hR; exact hR
/-- What All hands back. -/
def AllP (s : ByteArray) (w : World) (e : Ending) (w' : World) : Prop :=
  (if 200 < s.size then e = .returned (.tuple #[.slice none 0 0, .int .i64 0, .int .i64 4]) else match lexAll s.data.toList with
    | .error i => e = .returned (.tuple #[.slice none 0 0, .int .i64 (i : Int), .int .i64 1]) ∧ i ≤ s.size
    | .ok ts => (∃ v, e = .returned (.tuple #[v, .int .i64 0, .int .i64 0]) ∧ w'.ownsRow w.heap.size 61 3 v ts.length (tcells ts)) ∧ ts.length ≤ s.size ∧ ∀ t ∈ ts, t.s.length ≤ s.size ∧ t.p ≤ s.size) ∧ Ext w w'
theorem owned_tok {base : Nat} {w : World} {v : Value} {l : List Tok} (h : w.ownsRow base 61 3 v l.length (tcells l)) : ∃ p cap, v = .slice p l.length cap := by
  obtain ⟨-, ⟨hv, h0⟩ | ⟨g, cap, cur, hv, -⟩⟩ := h
  · exact ⟨none, 0, by rw [hv, h0]⟩
  · exact ⟨_, cap, hv⟩
theorem lex_round {w wr w2 w8 : World} {v : Value} {o : List Tok} {x : Array Value} {t : TypeId} (hOw : wr.ownsRow w.heap.size 61 3 v o.length (tcells o)) (hX : Ext w wr) (hE2 : Ext wr w2)
    (hg8 : (w2.alloc (.cells x t)).grownBy w8 v.ownBlock) : Ext w w8 :=
  ext_grown ((hX.trans hE2).trans (below_alloc1 _ _)) hg8 (fun k hk => (hOw.lt k hk).1)
theorem lex_owned {w wr w2 : World} {v : Value} {o : List Tok} (hOw : wr.ownsRow w.heap.size 61 3 v o.length (tcells o)) (hE2 : Ext wr w2) : w2.ownsRow w.heap.size 61 3 v o.length (tcells o) := by
  refine hOw.kept (row := none) ⟨hE2.os, hE2.tape, hE2.output, hE2.size, fun k hk _ => hE2.block k hk⟩ ?_
  cases hv : v.ownBlock with
  | none => exact .inl rfl
  | some k => exact .inr (by simp)
set_option maxRecDepth 100000 in
set_option maxHeartbeats 8000000 in
theorem all_any (s : ByteArray) (w : World) (hs : s.size ≤ 1000000) (ht : Tab w) :
    Calls Tryd.prog 17 #[.string s] w (AllP s w) := by
  have hsz : (s.size : Int) ≤ 1000000 := by omega
  have HLEN : Hid (s.data.toList.length = s.size) := Lib.hid (by simp)
  have HT := Lib.hid ht
  have HR0 := Lib.hid (Ext.refl w)
  clear hs ht
  by_cases hbig : 200 < s.size
  · have hb : (200 : Int) < (s.size : Int) := by omega
    go_enter Tryd.func17, Tryd.ntmps17
    go_wp2_with fail
    refine bodyPost_ret (v := .tuple #[.slice none 0 0, .int .i64 0, .int .i64 4]) (by simp [results, Tryd.results17, go_sem]) rfl ⟨by rw [if_pos hbig], HR0.out⟩
  have hb : (s.size : Int) ≤ 200 := by omega
  have HB : Hid (¬ 200 < s.size) := Lib.hid hbig
  obtain ⟨R, hR⟩ : ∃ R, lexAll s.data.toList = R := ⟨_, rfl⟩
  have HS : Hid (LxAt s.data.toList R 0 []) := Lib.hid (by rw [← hR]; exact lx_start _)
  have HRR := Lib.hid hR
  clear hbig hR
  go_enter Tryd.func17, Tryd.ntmps17
  go_wp2_with fail
  go_loopw [5, 6] (fun sv si wr => ∃ (i : Nat) (o : List Tok), i ≤ s.size ∧ si = .int .i64 (i : Int) ∧ Hid (LxAt s.data.toList R i o) ∧ Hid (wr.ownsRow w.heap.size 61 3 sv o.length (tcells o)) ∧ Hid (Ext w wr)) (fun _ si _ => s.size - (intOf si).toNat)
  case atStart => exact ⟨0, [], Nat.zero_le _, rfl, HS, Lib.hid ⟨rfl, .inl ⟨rfl, rfl⟩⟩, HR0⟩
  case round =>
    obtain ⟨i, o, hi, rfl, HLX, HOW, HX⟩ := hrel
    obtain ⟨p, cap, hv⟩ := owned_tok HOW.out
    by_cases hin : i = s.size
    · subst hin
      have HV : Hid (R = .ok o) := Lib.hid (lx_end HLX.out (by rw [HLEN.out]; exact Nat.le_refl _))
      go_wp2_with fail
      refine bodyPost_ret (v := .tuple #[_, .int .i64 0, .int .i64 0]) (by simp [results, Tryd.results17, go_sem]; rfl) rfl ⟨by rw [if_neg HB.out, HRR.out, HV.out]; exact ⟨⟨_, rfl, HOW.out⟩, by have := HLX.out.2.1; have := HLX.out.1; omega, fun t ht => by have := HLX.out.2.2.1 t ht; rw [HLEN.out] at this; exact this⟩, HX.out⟩
    have hlt : i < s.size := by omega
    have hltI : (i : Int) < (s.size : Int) := by omega
    have HLT := Lib.hid hlt
    obtain ⟨c, hcs⟩ : ∃ c, s.data.toList[i]? = some c := ⟨_, List.getElem?_eq_getElem (by rw [HLEN.out]; exact hlt)⟩
    have HCC := Lib.hid hcs
    have hc : s[i]'hlt = c := Option.some.inj ((List.getElem?_eq_getElem (by rw [HLEN.out]; exact hlt)).symm.trans hcs)
    clear hcs hin
    cases h32 : (c.toNat == 32)
    case true =>
      have q32 : ((c.toNat : Int) == 32) = true := by have h1 : c.toNat = 32 := (by simpa using h32); rw [h1]; rfl
      have HN := Lib.hid (lx_blank HLX.out HCC.out h32)
      clear h32
      go_wp2_with fail
      exact ⟨⟨i + 1, o, HLT.out, rfl, HN, HOW, HX⟩, by have := HLT.out; simp [intOf]; omega⟩
    have q32 : ((c.toNat : Int) == 32) = false := by have h1 : c.toNat ≠ 32 := (by simpa using h32); rw [beq_eq_false_iff_ne]; omega
    have H32 := Lib.hid h32
    have hsl := sl_tail (Nat.le_of_lt hlt)
    have ON := one_any (mk (s.data.toList.drop i)) wr (by rw [mk_size, List.length_drop, HLEN.out]; omega) (by rw [mk_size, List.length_drop, HLEN.out]; omega) (HT.out.ext HX.out)
    rw [mk_list] at ON
    have ON := Lib.hid ON
    clear h32
    go_wp2_with fail
    refine ON.out.mono ?_
    rintro e w2 ⟨⟨k, t, n, rfl, hOne⟩, hE2⟩
    cases hO : oneT (s.data.toList.drop i) with
    | none =>
      rw [hO] at hOne
      simp only at hOne
      subst hOne
      have HV : Hid (R = .error i) := Lib.hid (lx_err HLX.out HCC.out H32.out hO)
      have HX2 := Lib.hid (HX.out.trans hE2)
      clear hO hE2
      go_wp2_with (first | ((with_reducible refine wpl_guard (isStore 61) ?_ ?_); (· rfl); refine wpl_store (t := ?_) (old := ?_) (w' := ?_) rfl 61 _ _ rfl rfl rfl ?_ ?_ ?_ ?_ ?_ ?_; rotate_left 2; (· (first | (with_reducible assumption) | (simp (disch := (first | omega | (simp only [World.size_alloc, World.size_setCell, World.size_drew, size_setRow]; done) | (simp only [World.size_alloc, World.size_setCell, World.size_drew, size_setRow]; omega))) only [hq_at, hq_past, hq_drew, hq_drewN, hq_cell, hq_row, hq_same, rowOf_cells, Option.map_some, *]; rfl) | (simp (disch := (first | omega | (simp only [World.size_alloc, World.size_setCell, World.size_drew, size_setRow]; done) | (simp only [World.size_alloc, World.size_setCell, World.size_drew, size_setRow]; omega))) only [hq_at, hq_past, hq_drew, hq_drewN, hq_cell, hq_row, hq_same, rowOf_cells, Option.map_some, *]))); (· kernel_rfl); (· rfl); (· rfl); rotate_left 1; (· (first | (simp (disch := (first | omega | (simp only [World.size_alloc, World.size_setCell, World.size_drew, size_setRow]; done) | (simp only [World.size_alloc, World.size_setCell, World.size_drew, size_setRow]; omega))) only [setRow_at, setRow_past, setRow_drew]; rfl) | rfl))))
      refine bodyPost_ret (v := .tuple #[.slice none 0 0, .int .i64 (i : Int), .int .i64 1]) (by simp [results, Tryd.results17, go_sem]) rfl ⟨by rw [if_neg HB.out, HRR.out, HV.out]; exact ⟨rfl, Nat.le_of_lt HLT.out⟩, HX2.out.trans (below_alloc1 _ _)⟩
    | some r =>
      obtain ⟨k', t', m⟩ := r
      rw [hO] at hOne
      obtain ⟨rfl, rfl, rfl⟩ := hOne
      have hstep := lx_tok HLX.out HCC.out H32.out hO
      have hn1 : 1 ≤ n := hstep.2.1
      have hn2 : i + n ≤ s.size := by rw [← HLEN.out]; exact hstep.2.2
      have HN := Lib.hid hstep.1
      have hnq : ((n : Int) == 0) = false := by rw [beq_eq_false_iff_ne]; omega
      have hw : IntKind.i64.wrap ((i : Int) + (n : Int)) = ((i + n : Nat) : Int) := by rw [IntWalk.i64_in _ ⟨by omega, by omega⟩]; rfl
      have HN1 := Lib.hid hn1
      have HN2 := Lib.hid hn2
      have HOW2 := Lib.hid (lex_owned HOW.out hE2)
      have HE2 := Lib.hid hE2
      clear hO hstep hE2 hn1 hn2
      subst hv
      go_upto_region 12 with (first | ((with_reducible refine wpl_guard (isStore 61) ?_ ?_); (· rfl); refine wpl_store (t := ?_) (old := ?_) (w' := ?_) rfl 61 _ _ rfl rfl rfl ?_ ?_ ?_ ?_ ?_ ?_; rotate_left 2; (· (first | (with_reducible assumption) | (simp (disch := (first | omega | (simp only [World.size_alloc, World.size_setCell, World.size_drew, size_setRow]; done) | (simp only [World.size_alloc, World.size_setCell, World.size_drew, size_setRow]; omega))) only [hq_at, hq_past, hq_drew, hq_drewN, hq_cell, hq_row, hq_same, rowOf_cells, Option.map_some, *]; rfl) | (simp (disch := (first | omega | (simp only [World.size_alloc, World.size_setCell, World.size_drew, size_setRow]; done) | (simp only [World.size_alloc, World.size_setCell, World.size_drew, size_setRow]; omega))) only [hq_at, hq_past, hq_drew, hq_drewN, hq_cell, hq_row, hq_same, rowOf_cells, Option.map_some, *]))); (· kernel_rfl); (· rfl); (· rfl); rotate_left 1; (· (first | (simp (disch := (first | omega | (simp only [World.size_alloc, World.size_setCell, World.size_drew, size_setRow]; done) | (simp only [World.size_alloc, World.size_setCell, World.size_drew, size_setRow]; omega))) only [setRow_at, setRow_past, setRow_drew]; rfl) | rfl))))
      obtain ⟨W3, hW3, hE3, hG3, hL3, hS3⟩ := new_blk w2 ((tokC k t 0).setIfInBounds 2 (.int .i64 (i : Int))) 61
      rw [hW3]
      have hg3 : W3.heap[w2.heap.size]? = some (.cells (tokC k t i) 61 (0, 0)) := hG3
      have hbs := bsT k t i W3
      have HOW3 := Lib.hid (lex_owned HOW2.out hE3)
      have HX3 := Lib.hid ((HX.out.trans HE2.out).trans hE3)
      have HOLEN : Hid (o.length < 1000000) := Lib.hid (by have h1 := HLX.out.2.1; have h2 := HLX.out.1; rw [HLEN.out] at h2; omega)
      clear hW3 hE3 hG3 hL3 hS3
      go_wp2_with (first
        | ((with_reducible refine wpl_guard (isLoad 61) ?_ ?_); (· rfl); refine wpl_load (t := ?_) (cs := ?_) (fr := ?_) rfl 61 _ rfl rfl ?_ Tryd.underlying61 rfl ?_ ?_; rotate_left 3; (· (first | (with_reducible assumption) | (simp (disch := (first | omega | (simp only [World.size_alloc, World.size_setCell, World.size_drew, size_setRow]; done) | (simp only [World.size_alloc, World.size_setCell, World.size_drew, size_setRow]; omega))) only [hq_at, hq_past, hq_drew, hq_drewN, hq_cell, hq_row, hq_same, rowOf_cells, Option.map_some, *]; rfl) | (simp (disch := (first | omega | (simp only [World.size_alloc, World.size_setCell, World.size_drew, size_setRow]; done) | (simp only [World.size_alloc, World.size_setCell, World.size_drew, size_setRow]; omega))) only [hq_at, hq_past, hq_drew, hq_drewN, hq_cell, hq_row, hq_same, rowOf_cells, Option.map_some, *]))); (· kernel_rfl); (try dsimp only [Act.put, List.setIfInBounds_toArray, List.set_cons_zero, List.set_cons_succ]))
        | ((with_reducible refine wpl_guard isBS ?_ ?_); (· rfl); refine wpl_bs rfl _ _ _ rfl ?_ (hbs) ?_; (· rfl))
        | ((with_reducible refine wpl_guard isApp ?_ ?_); (· rfl); refine app_tok rfl _ _ rfl _ o rfl HOW3.out HX3.out.size ⟨k, t, i⟩ rfl rfl HOLEN.out (fun v8 w8 hOw8 hg8 hl8 => ?_)))
      have HX8 := Lib.hid (lex_round HOW3.out HX3.out (Ext.refl _) hg8)
      have HOW8 := Lib.hid hOw8
      clear hOw8 hg8 hl8 hbs hg3
      go_wp2_with fail
      exact ⟨⟨i + n, o ++ [⟨k, t, i⟩], HN2.out, rfl, HN, HOW8, HX8⟩, by have := HN1.out; have := HN2.out; simp [intOf]; omega⟩
end Go.Proofs.YtffogjhjgmohiaaDoor
