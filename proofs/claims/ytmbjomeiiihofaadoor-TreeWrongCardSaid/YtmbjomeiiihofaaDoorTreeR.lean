/-
  tree: Leaves: walk. Conditions: each theorem's own.
-/
import Derived.Test.YtmbjomeiiihofaaDoorTreeN
import Derived.Deep.CutBlock
import Derived.Deep.DeepCutAuto
namespace Go.Proofs.YtmbjomeiiihofaaDoor
open Go.RowKit
set_option linter.unusedVariables false
set_option linter.unusedSimpArgs false

/-- What a yield that counts says, from a count on, so often. -/
def runY (y : Nat → Bool) (c : Nat) : Nat → Bool × Nat
  | 0 => (true, c)
  | m + 1 => if y (c + 1) then runY y (c + 1) m else (false, c + 1)
theorem runY_true {y : Nat → Bool} {m : Nat} : ∀ {c : Nat}, (runY y c m).1 = true → runY y c m = (true, c + m) := by
  induction m with
  | zero => intro c _; rfl
  | succ m ih =>
    intro c h
    unfold runY at h ⊢
    by_cases hy : y (c + 1) = true
    · rw [if_pos hy] at h ⊢
      rw [ih h]
      congr 1
      omega
    · rw [if_neg hy] at h; cases h
theorem runY_add {y : Nat → Bool} {m m' : Nat} : ∀ {c : Nat}, runY y c m = (true, c + m) → runY y c (m + m') = runY y (c + m) m' := by
  induction m with
  | zero => intro c _; rw [Nat.zero_add, Nat.add_zero]
  | succ m ih =>
    intro c h
    rw [show m + 1 + m' = (m + m') + 1 by omega]
    unfold runY at h ⊢
    by_cases hy : y (c + 1) = true
    · rw [if_pos hy] at h ⊢
      have h' := runY_true (y := y) (m := m) (c := c + 1) (by rw [h])
      rw [ih h', show c + 1 + m = c + (m + 1) by omega]
      rw [← show runY y (c + (m + 1)) m' = _ from rfl]
      cases m' <;> rfl
    · rw [if_neg hy] at h; cases h
theorem runY_stop {y : Nat → Bool} {m m' : Nat} : ∀ {c : Nat}, (runY y c m).1 = false → runY y c (m + m') = runY y c m := by
  induction m with
  | zero => intro c h; cases h
  | succ m ih =>
    intro c h
    rw [show m + 1 + m' = (m + m') + 1 by omega]
    unfold runY at h ⊢
    by_cases hy : y (c + 1) = true
    · rw [if_pos hy] at h ⊢
      rw [if_pos hy, ih h]
    · rw [if_neg hy, if_neg hy]
mutual
def leavesT : Tr → Nat
  | .mk _ [] => 1
  | .mk _ (t :: l) => leavesT t + leavesL l
def leavesL : List Tr → Nat
  | [] => 0
  | t :: l => leavesT t + leavesL l
end
theorem leavesT_mk {s : Sc} {l : List Tr} (h : l ≠ []) : leavesT (.mk s l) = leavesL l := by
  cases l with
  | nil => exact absurd rfl h
  | cons t l => simp only [leavesT, leavesL]
theorem leavesL_append (l l' : List Tr) : leavesL (l ++ l') = leavesL l + leavesL l' := by
  induction l with
  | nil => simp [leavesL]
  | cons t l ih => simp only [List.cons_append, leavesL, ih]; omega
theorem leavesL_take {l : List Tr} {k : Nat} {t : Tr} (h : l[k]? = some t) : leavesL (l.take (k + 1)) = leavesL (l.take k) + leavesT t := by
  rw [List.take_add_one, h, leavesL_append]
  simp [leavesL]
theorem leavesL_drop {l : List Tr} {k : Nat} {t : Tr} (h : l[k]? = some t) : leavesL l = leavesL (l.take k) + leavesT t + leavesL (l.drop (k + 1)) := by
  rw [← leavesL_take h, ← leavesL_append, List.take_append_drop]
mutual
theorem leaves_le : ∀ t : Tr, 1 ≤ leavesT t ∧ leavesT t ≤ sizeT t
  | .mk s [] => by simp only [leavesT, sizeT, sizeL]; omega
  | .mk s (t :: l) => by
    have h1 := leaves_le t
    have h2 := leavesL_le l
    simp only [leavesT, sizeT, sizeL]
    omega
theorem leavesL_le : ∀ l : List Tr, leavesL l ≤ sizeL l
  | [] => by simp only [leavesL, sizeL]; omega
  | t :: l => by
    have h1 := leaves_le t
    have h2 := leavesL_le l
    simp only [leavesL, sizeL]
    omega
end
/-- Block b holds a count. -/
def CountAt (b : Nat) (W : World) (c : Nat) : Prop := W.heap[b]? = some (.cells #[.int .i64 (c : Int)] 3 (0, 0))
/-- A function that counts up what lies in block b, and says by the count. -/
def Yields (k : Nat) (caps : Array Value) (b : Nat) (y : Nat → Bool) (J : World → Prop) : Prop := ∀ (W : World) (c : Nat) (f : Fl), c < 1000000000 → CountAt b W c → J W →
  Calls Tryd.prog k (#[f.val] ++ caps) W fun e w' => e = .returned (.bool (y (c + 1))) ∧ ExtX b W w' ∧ CountAt b w' (c + 1)
theorem CountAt.ext {b c : Nat} {W w : World} (h : CountAt b W c) (hE : Ext W w) : CountAt b w c := hE.blk h
set_option maxRecDepth 100000 in
set_option maxHeartbeats 8000000 in
theorem leaves_any (fn : Nat) (caps : Array Value) (b : Nat) (y : Nat → Bool) (J : World → Prop) (HJ : Hid (∀ W w, J W → ExtX b W w → J w)) (HY : Hid (Yields fn caps b y J)) (hen : ∀ (args : Array Value) (w : World), (callFunc fn args).run Tryd.prog w = .ok (.enter fn args) w) (n : Nat) :
    ∀ (t : Tr) (f : Fl) (B : Nat → Prop) (W : World) (c : Nat), sizeT t ≤ n → ¬ B b → Rep W B t f → c + leavesT t < 1000000000 → CountAt b W c → J W →
    Calls Tryd.prog 25 #[f.val, .func (.func fn) #[] caps] W fun e w' => e = .returned (.bool (runY y c (leavesT t)).1) ∧ ExtX b W w' ∧ CountAt b w' (runY y c (leavesT t)).2 := by
  induction n with
  | zero =>
    rintro ⟨s, l⟩ f B W c h
    simp only [sizeT] at h
    omega
  | succ n ih =>
    rintro t f B W c hsz hBb ⟨s, ts, p, cap, fs, ho, hn, hl, hs, hk⟩ hc hC hJ
    have hSZ : sizeT (.mk s ts) = 1 + sizeL ts := by simp only [sizeT]
    rw [hSZ] at hsz
    clear hSZ
    obtain ⟨W1, hW1, hE1, hG1, hL1, hS1⟩ := new_blk W (s.fl p ts.length cap).cells 38
    have HW1 := Lib.hid hW1
    have HE1 := Lib.hid hE1
    have HK := Lib.hid hk
    have HS := Lib.hid hs
    have HL := Lib.hid hl
    have HSZ := Lib.hid hsz
    have HIH := Lib.hid ih
    have HBb := Lib.hid hBb
    have HC := Lib.hid hC
    have HJW := Lib.hid hJ
    have HCL := Lib.hid hc
    have HG1 := Lib.hid hG1
    obtain ⟨N, hN⟩ : ∃ N, ts.length = N := ⟨_, rfl⟩
    rw [hN] at hG1 hn HG1
    have hG1' : W1.heap[W.heap.size]? = some (.cells #[.int .i64 s.k, .int .i64 s.op, .int .i64 s.vk, .int .i64 s.vn, .string s.vs, .int .i64 s.A.s, .int .i64 s.A.c, .int .i64 s.A.r, .bool s.A.x, .bool s.A.y,
      .int .i64 s.B.s, .int .i64 s.B.c, .int .i64 s.B.r, .bool s.B.x, .bool s.B.y, .string s.nm, .slice p N cap] 38 (0, 0)) := hG1
    have c16 := cell_of_row W1 W.heap.size 16 _ _ _ hG1'
    simp only [List.getElem?_toArray, List.getElem?_cons_zero, List.getElem?_cons_succ] at c16
    have hN' : (N : Int) ≤ 1000 := by omega
    have HN := Lib.hid hN
    have hg1 := HG1.out
    clear ho hW1 hE1 hG1 hL1 hS1 hk hs hl hsz ih hN hG1' hBb hC hJ hc
    unfold Fl.val
    go_enter Tryd.func25, Tryd.ntmps25
    go_upto_region 1 with (fail)
    rw [HW1.out]
    clear HW1
    by_cases hN0 : N = 0
    · subst hN0
      obtain rfl : ts = [] := List.length_eq_zero_iff.1 HN.out
      go_wp2_with (first | ((with_reducible refine wpl_guard (isLoad 38) ?_ ?_); (· rfl); refine wpl_load (t := ?_) (cs := ?_) (fr := ?_) rfl 38 _ rfl rfl ?_ Tryd.underlying38 rfl ?_ ?_; rotate_left 3; (· (first | (with_reducible assumption) | (simp (disch := (first | omega | (simp only [World.size_alloc, World.size_setCell, World.size_drew, size_setRow]; done) | (simp only [World.size_alloc, World.size_setCell, World.size_drew, size_setRow]; omega))) only [hq_at, hq_past, hq_drew, hq_drewN, hq_cell, hq_row, hq_same, rowOf_cells, Option.map_some, *]; rfl) | (simp (disch := (first | omega | (simp only [World.size_alloc, World.size_setCell, World.size_drew, size_setRow]; done) | (simp only [World.size_alloc, World.size_setCell, World.size_drew, size_setRow]; omega))) only [hq_at, hq_past, hq_drew, hq_drewN, hq_cell, hq_row, hq_same, rowOf_cells, Option.map_some, *]))); (· kernel_rfl); (try dsimp only [Act.put, List.setIfInBounds_toArray, List.set_cons_zero, List.set_cons_succ])))
      refine (HY.out W1 c (s.fl p 0 cap) (Nat.lt_of_le_of_lt (Nat.le_add_right _ _) HCL.out) (HC.out.ext HE1.out) (HJ.out _ _ HJW.out (.of_ext HE1.out))).mono ?_
      rintro e w2 ⟨rfl, hX2, hC2⟩
      have HX2 := Lib.hid hX2
      have HC2 := Lib.hid hC2
      have HV : Hid (runY y c (leavesT (.mk s [])) = (y (c + 1), c + 1)) := Lib.hid (by simp only [leavesT, runY]; cases y (c + 1) <;> rfl)
      clear hX2 hC2 c16 hg1
      go_wp2_with fail
      go_ret
      exact ⟨by rw [HV.out]; rfl, (ExtX.of_ext HE1.out).trans HX2.out, by rw [HV.out]; exact HC2.out⟩
    have hNe : ts ≠ [] := fun e => hN0 (by rw [← HN.out, e]; rfl)
    have HLT := Lib.hid (leavesT_mk (s := s) hNe)
    have hNq : ((N : Int) == 0) = false := by simp; omega
    clear hNe hg1
    rw [HLT.out] at HCL
    go_wp2_with fail
    go_loopw [17] (fun si wr => ∃ k : Nat, k ≤ N ∧ si = .int .i64 (k : Int) ∧ Hid (runY y c (leavesL (ts.take k)) = (true, c + leavesL (ts.take k))) ∧ Hid (CountAt b wr (c + leavesL (ts.take k))) ∧ Hid (ExtX b W1 wr)) (fun si _ => N - (intOf si).toNat)
    case atStart => exact ⟨0, by omega, rfl, Lib.hid (by simp [leavesL, runY]), Lib.hid (by simpa [leavesL] using HC.out.ext HE1.out), Lib.hid (ExtX.refl _ _)⟩
    case round =>
      obtain ⟨k, hk, rfl, HRk, HCk, HX⟩ := hrel
      have HX0 := Lib.hid ((ExtX.of_ext (b := b) HE1.out).trans HX.out)
      by_cases hkN : k = N
      · subst hkN
        have HV : Hid (ts.take k = ts) := Lib.hid (List.take_of_length_le (by rw [HN.out]; exact Nat.le_refl _))
        rw [HV.out] at HRk HCk
        go_wp2_with fail
        go_ret
        exact ⟨by rw [HLT.out, HRk.out]; rfl, HX0.out, by rw [HLT.out, HRk.out]; exact HCk.out⟩
      have hkN' : (k : Int) < (N : Int) := by omega
      obtain ⟨t, ht⟩ : ∃ t, ts[k]? = some t := ⟨_, List.getElem?_eq_getElem (by rw [HN.out]; omega)⟩
      obtain ⟨f, hf⟩ : ∃ f, fs[k]? = some f := ⟨_, List.getElem?_eq_getElem (by rw [HL.out, HN.out]; omega)⟩
      obtain ⟨g, o, rfl, hB, hNA⟩ := HS.out k f hf
      have hna := hNA.keeps hB (HX0.out.keeps HBb.out)
      clear hNA
      go_wp2_with (first | ((with_reducible refine wpl_guard (isLoad 38) ?_ ?_); (· rfl); refine wpl_load_node rfl 38 _ rfl rfl hna Tryd.underlying38 rfl ?_ ?_; (· kernel_rfl); (try dsimp only [Act.put, List.setIfInBounds_toArray, List.set_cons_zero, List.set_cons_succ])) | ((with_reducible refine wpl_guard (isLoad 38) ?_ ?_); (· rfl); refine wpl_load (t := ?_) (cs := ?_) (fr := ?_) rfl 38 _ rfl rfl ?_ Tryd.underlying38 rfl ?_ ?_; rotate_left 3; (· (first | (with_reducible assumption) | (simp (disch := (first | omega | (simp only [World.size_alloc, World.size_setCell, World.size_drew, size_setRow]; done) | (simp only [World.size_alloc, World.size_setCell, World.size_drew, size_setRow]; omega))) only [hq_at, hq_past, hq_drew, hq_drewN, hq_cell, hq_row, hq_same, rowOf_cells, Option.map_some, *]; rfl) | (simp (disch := (first | omega | (simp only [World.size_alloc, World.size_setCell, World.size_drew, size_setRow]; done) | (simp only [World.size_alloc, World.size_setCell, World.size_drew, size_setRow]; omega))) only [hq_at, hq_past, hq_drew, hq_drewN, hq_cell, hq_row, hq_same, rowOf_cells, Option.map_some, *]))); (· kernel_rfl); (try dsimp only [Act.put, List.setIfInBounds_toArray, List.set_cons_zero, List.set_cons_succ])) | ((with_reducible refine wpl_guard (isStore 38) ?_ ?_); (· rfl); refine wpl_store (t := ?_) (old := ?_) (w' := ?_) rfl 38 _ _ rfl rfl rfl ?_ ?_ ?_ ?_ ?_ ?_; rotate_left 2; (· (first | (with_reducible assumption) | (simp (disch := (first | omega | (simp only [World.size_alloc, World.size_setCell, World.size_drew, size_setRow]; done) | (simp only [World.size_alloc, World.size_setCell, World.size_drew, size_setRow]; omega))) only [hq_at, hq_past, hq_drew, hq_drewN, hq_cell, hq_row, hq_same, rowOf_cells, Option.map_some, *]; rfl) | (simp (disch := (first | omega | (simp only [World.size_alloc, World.size_setCell, World.size_drew, size_setRow]; done) | (simp only [World.size_alloc, World.size_setCell, World.size_drew, size_setRow]; omega))) only [hq_at, hq_past, hq_drew, hq_drewN, hq_cell, hq_row, hq_same, rowOf_cells, Option.map_some, *]))); (· kernel_rfl); (· rfl); (· rfl); rotate_left 1; (· (first | (simp (disch := (first | omega | (simp only [World.size_alloc, World.size_setCell, World.size_drew, size_setRow]; done) | (simp only [World.size_alloc, World.size_setCell, World.size_drew, size_setRow]; omega))) only [setRow_at, setRow_past, setRow_drew]; rfl) | rfl))))
      have hX2 := HX.out.trans (.of_ext (b := b) (below_alloc1 wr (.cells f.cells 38)))
      have hX3 := (ExtX.of_ext (b := b) HE1.out).trans hX2
      have hd := leavesL_drop ht
      have IH := HIH.out t f B (wr.alloc (.cells f.cells 38)) (c + leavesL (ts.take k)) (by have := HSZ.out; have := sizeL_mem ht; omega) HBb.out ((HK.out k t f ht hf).keeps (hX3.keeps HBb.out)) (by have := HCL.out; omega) (HCk.out.ext (below_alloc1 wr _)) (HJ.out _ _ HJW.out hX3)
      refine IH.mono ?_
      rintro e w3 ⟨rfl, hX4, hC4⟩
      have HX4 := Lib.hid (hX2.trans hX4)
      have HC4 := Lib.hid hC4
      have HT := Lib.hid (leavesL_take ht)
      have HD := Lib.hid hd
      have HK1 : Hid (k + 1 ≤ N) := Lib.hid (by omega)
      obtain ⟨r, hr⟩ : ∃ r, runY y (c + leavesL (ts.take k)) (leavesT t) = r := ⟨_, rfl⟩
      have HR := Lib.hid hr
      rw [hr] at HC4 ⊢
      clear hX2 hX3 hX4 hC4 hd IH ht hf hr hB hna hk
      obtain ⟨rb, rc⟩ := r
      cases rb
      · go_wp2_with fail
        go_ret
        have hv : runY y c (leavesL ts) = (false, rc) := by
          rw [HD.out, Nat.add_assoc, runY_add HRk.out, runY_stop (by rw [HR.out]), HR.out]
        exact ⟨by rw [HLT.out, hv]; rfl, (ExtX.of_ext HE1.out).trans HX4.out, by rw [HLT.out, hv]; exact HC4.out⟩
      · go_wp2_with fail
        have h1 := runY_true (y := y) (m := leavesT t) (c := c + leavesL (ts.take k)) (by rw [HR.out])
        rw [HR.out] at h1
        have h2 : rc = c + leavesL (ts.take k) + leavesT t := congrArg Prod.snd h1
        exact ⟨⟨k + 1, HK1.out, rfl, Lib.hid (by rw [HT.out, runY_add HRk.out, HR.out, h2, Nat.add_assoc]), Lib.hid (by rw [HT.out, ← Nat.add_assoc, ← h2]; exact HC4.out), HX4⟩, by simp [intOf]; omega⟩
end Go.Proofs.YtmbjomeiiihofaaDoor
