/-
  Slices of nodes that a call gathers, one behind the other. Conditions: each theorem's own.
-/
import Derived.Test.YtffogjhjgmohiaaDoorTreeK
import Derived.OwnWalk
import Derived.Deep.AppendLies
import Derived.Laws.AppendOwnNone
import Derived.Deep.CutBlock
import Derived.Deep.DeepCutAuto
namespace Go.Proofs.YtffogjhjgmohiaaDoor
open Go.RowKit
set_option linter.unusedVariables false
set_option linter.unusedSimpArgs false

theorem node_info : (Tryd.prog.info? 33).map (fun i => (i.zero, i.size, i.bytes)) = some (some (.agg #[.int .i64 0, .int .i64 0, .int .i64 0, .int .i64 0, .string ⟨#[]⟩, .int .i64 0, .int .i64 0, .int .i64 0, .bool false, .bool false, .int .i64 0, .int .i64 0, .int .i64 0, .bool false, .bool false, .string ⟨#[]⟩, .slice none 0 0]), 17, 152) := by kernel_rfl
/-- The cells of nodes, one behind the other. -/
def fcells (l : List Fl) : List Value := l.flatMap (fun f => f.cells.toList)
theorem fcells_len (l : List Fl) : (fcells l).length = l.length * 17 := by
  induction l with
  | nil => rfl
  | cons f l ih =>
    have e : fcells (f :: l) = f.cells.toList ++ fcells l := rfl
    rw [e, List.length_append, ih, List.length_cons, Array.length_toList, fl_size]
    omega
theorem fcells_app (l : List Fl) (f : Fl) : fcells (l ++ [f]) = fcells l ++ f.cells.toList := by simp [fcells]
theorem fl_one (f : Fl) : ∀ u ∈ f.cells.toList, u.oneCell' = true := by
  have h : f.cells.toList.all (·.oneCell') = true := rfl
  exact fun u hu => List.all_eq_true.1 h u hu
set_option maxRecDepth 100000 in
/-- A node put behind. -/
theorem app_node {base : Nat} {w : World} {ops : Array Oper} {rest : List Oper} {o : Oper} {a : Act} {Q : Exit → Act → World → Prop} (hgd : o.guard = none) (s x : Operand)
    (ho : o.op = .call { callee := .builtin .append, args := #[s, x], argTypes := #[31, 31] }) (v : Value) (l : List Fl) (hs : a.eval s = v)
    (hown : w.ownsRow base 33 17 v l.length (fcells l)) (hb : base ≤ w.heap.size) (f : Fl)
    {ad : Addr} (hx : a.eval x = .slice (some ad) 1 1) (had : ad = ⟨w.heap.size, 0, none⟩) (hlen : l.length < 1000000)
    (h : ∀ v' w', w'.ownsRow base 33 17 v' (l ++ [f]).length (fcells (l ++ [f])) → (w.alloc (.cells f.cells 33)).grownBy w' v.ownBlock → (v'.ownBlock = v.ownBlock ∨ v'.ownBlock = some (w.heap.size + 1)) → wpList Tryd.prog ops Q rest (a.put o.dst v') w') :
    wpList Tryd.prog ops Q (o :: rest) a (w.alloc (.cells f.cells 33)) := by
  obtain ⟨i0, hi, hz0, hz1, hz2⟩ : ∃ i, Tryd.prog.info? 33 = some i ∧ i.zero = some (.agg #[.int .i64 0, .int .i64 0, .int .i64 0, .int .i64 0, .string ⟨#[]⟩, .int .i64 0, .int .i64 0, .int .i64 0, .bool false, .bool false, .int .i64 0, .int .i64 0, .int .i64 0, .bool false, .bool false, .string ⟨#[]⟩, .slice none 0 0]) ∧ i.size = 17 ∧ i.bytes = 152 := by
    have h := node_info
    cases hq : Tryd.prog.info? 33 with
    | none => rw [hq] at h; cases h
    | some i =>
      rw [hq] at h
      simp only [Option.map_some, Option.some.injEq, Prod.mk.injEq] at h
      exact ⟨i, rfl, h.1, h.2.1, h.2.2⟩
  subst had
  refine wpList_append_lies _ hgd s x 31 ho base 33 i0 _ 17 152 Tryd.underlying31 hi hz0 hz1 hz2 rfl (by decide) v _ _ hs (hown.alloc _) ⟨w.heap.size, 0, none⟩ 1 1 f.cells.toList hx (by rw [Array.length_toList, fl_size]) ?c1 (fl_one f) (by decide) ?c3 ?c4 ?c5 _ rfl ?_
  case c1 =>
    intro j u hj
    have hadd : (⟨w.heap.size, 0, none⟩ : Addr).add j = ⟨w.heap.size, j, none⟩ := by unfold Addr.add; split <;> simp_all
    rw [hadd, cell_of_row _ w.heap.size j f.cells 33 (0, 0) (hq_at _ _ rfl)]
    simpa using hj
  case c3 => unfold maxLen; omega
  case c4 => omega
  case c5 => simp; omega
  intro g cap w' h1 h2 h3 _
  refine h _ w' ?_ h2 ?_
  · rw [fcells_app]
    simpa using h1
  · rcases h3 with h3 | h3
    · exact .inl h3.symm
    · right
      rw [h3]
      simp [Value.ownBlock]
theorem fcells_at : ∀ {l : List Fl} {i : Nat} {f : Fl} {j : Nat}, l[i]? = some f → j < 17 → (fcells l)[i * 17 + j]? = f.cells[j]?
  | [], i, f, j, h, _ => by cases h
  | f0 :: l, 0, f, j, h, hj => by
    cases h
    have e : fcells (f0 :: l) = f0.cells.toList ++ fcells l := rfl
    rw [e, Nat.zero_mul, Nat.zero_add, List.getElem?_append_left (by rw [Array.length_toList, fl_size]; exact hj)]
    simp
  | f0 :: l, i + 1, f, j, h, hj => by
    have e : fcells (f0 :: l) = f0.cells.toList ++ fcells l := rfl
    have h' : l[i]? = some f := h
    have hs : f0.cells.toList.length = 17 := by rw [Array.length_toList, fl_size]
    rw [e, List.getElem?_append_right (by rw [hs]; omega), hs, show (i + 1) * 17 + j - 17 = i * 17 + j by omega]
    exact fcells_at h' hj
theorem owned_form {base : Nat} {w : World} {v : Value} {l : List Fl} (h : w.ownsRow base 33 17 v l.length (fcells l)) : ∃ p cap, v = .slice p l.length cap := by
  obtain ⟨-, ⟨hv, h0⟩ | ⟨g, cap, cur, hv, -⟩⟩ := h
  · exact ⟨none, 0, by rw [hv, h0]⟩
  · exact ⟨_, cap, hv⟩
/-- What a gathered slice holds. -/
theorem owned_nodes {base : Nat} {w : World} {v : Value} {l : List Fl} (h : w.ownsRow base 33 17 v l.length (fcells l)) (hl : l ≠ []) :
    ∃ g cap, v = .slice (some ⟨g, 0, none⟩) l.length cap ∧ base ≤ g ∧ g < w.heap.size ∧ ∀ (i : Nat) f, l[i]? = some f → NodeAt w g (0 + i * 17) f := by
  obtain ⟨-, ⟨-, h0⟩ | ⟨g, cap, cur, hv, hb, hg, hn, -, -, ht⟩⟩ := h
  · exact absurd (List.length_eq_zero_iff.1 h0) hl
  · refine ⟨g, cap, hv, hb, blk_lt hg, fun i f hf => nodeAt_new hg fun j hj => ?_⟩
    have hil : i < l.length := (List.getElem?_eq_some_iff.1 hf).1
    have h1 := fcells_at hf hj
    rw [← ht, List.getElem?_take, if_pos (by have := Nat.mul_le_mul_right 17 (Nat.succ_le_of_lt hil); omega)] at h1
    rw [Nat.zero_add, ← h1]
    simp
theorem ExtX.grown {b : Nat} {W w : World} (h : ExtX b W w) : W.grownBy w (some b) := ⟨h.os, h.tape, h.output, h.size, fun k hk hne => h.block k (fun e => hne (by rw [e])) hk⟩
theorem ExtX.owns {b : Nat} {W w : World} (h : ExtX b W w) {base : Nat} {v : Value} {n : Nat} {xs : List Value} (ho : W.ownsRow base 33 17 v n xs) (hb : b < base) : w.ownsRow base 33 17 v n xs := by
  refine ho.kept h.grown ?_
  cases hv : v.ownBlock with
  | none => exact .inl rfl
  | some k =>
    have := (ho.lt k hv).1
    exact .inr (fun e => by cases e; omega)
theorem ExtX.grownTo {b : Nat} {W w w' : World} (h : ExtX b W w) {row : Option Nat} (hg : w.grownBy w' row) (hr : ∀ k, row = some k → W.heap.size ≤ k) : ExtX b W w' :=
  ⟨hg.os.trans h.os, hg.tape.trans h.tape, hg.output.trans h.output, Nat.le_trans h.size hg.size, fun k hk hl => (hg.block k (Nat.lt_of_lt_of_le hl h.size) (fun e => by have := hr k e.symm; omega)).trans (h.block k hk hl)⟩
/-- A round of the loop that gathers parts: what stands behind it. -/
theorem call_round {b : Nat} {W wc wr w6 w7 w8 : World} {v v' : Value} {l : List Fl} {ts : List Tr} {f1 : Fl} {t1 : Tr} (hB : b < W.heap.size) (hWc : W.heap.size < wc.heap.size) (hlt : l.length = ts.length)
    (hOw : wr.ownsRow wc.heap.size 33 17 v l.length (fcells l))
    (hRp : ∀ (i : Nat) t f, ts[i]? = some t → l[i]? = some f → Rep wr (fun g => W.heap.size < g ∧ some g ≠ v.ownBlock) t f)
    (hX : ExtX b wc wr) (hE6 : Ext wr w6) (hX7 : ExtX b w6 w7) (hS7 : SeedAt b w7) (hR1 : Rep w7 (fun g => w6.heap.size ≤ g) t1 f1)
    (hg8 : (w7.alloc (.cells f1.cells 33)).grownBy w8 v.ownBlock) (hl8 : v'.ownBlock = v.ownBlock ∨ v'.ownBlock = some (w7.heap.size + 1)) :
    (∀ (i : Nat) t f, (ts ++ [t1])[i]? = some t → (l ++ [f1])[i]? = some f → Rep w8 (fun g => W.heap.size < g ∧ some g ≠ v'.ownBlock) t f) ∧ ExtX b wc w8 ∧ SeedAt b w8 := by
  have h67 : ExtX b wr w7 := (ExtX.of_ext hE6).trans hX7
  have h78 : w7.grownBy w8 v.ownBlock := ⟨hg8.os, hg8.tape, hg8.output, Nat.le_trans (by simp) hg8.size, fun k hk hne => (hg8.block k (by simp; omega) hne).trans (heap_alloc_old w7 (.cells f1.cells 33) hk)⟩
  have hvk : ∀ k, v.ownBlock = some k → wc.heap.size ≤ k ∧ k < wr.heap.size := hOw.lt
  have hs1 := hE6.size
  have hs2 := hX7.size
  have hs3 := hX.size
  refine ⟨fun i t f ht hf => ?_, (hX.trans h67).grownTo h78 (fun k hk => (hvk k hk).1), ?_⟩
  · by_cases hi : i < l.length
    · rw [List.getElem?_append_left (by omega)] at ht
      rw [List.getElem?_append_left hi] at hf
      have hr : Rep wr (fun g => (W.heap.size < g ∧ some g ≠ v.ownBlock) ∧ g < wr.heap.size) t f := (hRp i t f ht hf).imp' (fun g hg hl => ⟨hg, hl⟩)
      refine (hr.keeps (w := w8) (fun k hk hl => ?_)).imp' (fun g hg _ => ⟨hg.1.1, ?_⟩)
      · exact (h78.block k (by omega) hk.1.2).trans (h67.block k (by omega) hl)
      · rcases hl8 with h | h
        · rw [h]; exact hg.1.2
        · rw [h]; intro e; cases e; omega
    · have hi' : i = l.length := by
        have := (List.getElem?_eq_some_iff.1 hf).1
        rw [List.length_append, List.length_singleton] at this
        omega
      subst hi'
      rw [List.getElem?_append_right (Nat.le_refl _), Nat.sub_self] at hf
      rw [hlt, List.getElem?_append_right (Nat.le_refl _), Nat.sub_self] at ht
      cases hf
      cases ht
      have hr : Rep w7 (fun g => w6.heap.size ≤ g ∧ g < w7.heap.size) t1 f1 := hR1.imp' (fun g hg hl => ⟨hg, hl⟩)
      have hne : ∀ g, w6.heap.size ≤ g → some g ≠ v.ownBlock := fun g hg e => by have := (hvk g e.symm).2; omega
      refine (hr.keeps (w := w8) (fun k hk hl => h78.block k hl (hne k hk.1))).imp' (fun g hg _ => ⟨by omega, ?_⟩)
      rcases hl8 with h | h
      · rw [h]; exact hne g hg.1
      · rw [h]; intro e; cases e; omega
  · refine hS7.keep (fun k hk => h78.block k (by omega) (fun e => ?_))
    have := (hvk k e.symm).1
    omega
/-- What was gathered, copied. -/
theorem app_copy {base : Nat} {w : World} {ops : Array Oper} {rest : List Oper} {o : Oper} {a : Act} {Q : Exit → Act → World → Prop} (hgd : o.guard = none) (s x : Operand)
    (ho : o.op = .call { callee := .builtin .append, args := #[s, x], argTypes := #[31, 31] }) (v : Value) (l : List Fl) (hs : a.eval s = .slice none 0 0) (hx : a.eval x = v)
    (hown : w.ownsRow base 33 17 v l.length (fcells l)) (hlen : l.length < 1000000)
    (h : ∀ p cap w', Ext w w' → (∀ (i : Nat) f, l[i]? = some f → ∃ g o, p = some ⟨g, o, none⟩ ∧ w.heap.size ≤ g ∧ NodeAt w' g (o + i * 17) f) → wpList Tryd.prog ops Q rest (a.put o.dst (.slice p l.length cap)) w') :
    wpList Tryd.prog ops Q (o :: rest) a w := by
  obtain ⟨i0, hi, hz0, hz1, hz2⟩ := info_parts node_info
  by_cases hl : l = []
  · subst hl
    obtain ⟨-, ⟨hv, -⟩ | ⟨g, cap, cur, hv, hb, hg, hn, -, -, ht⟩⟩ := hown
    · exact wpList_append_own_none hgd s x 31 ho w.heap.size 33 i0 17 Tryd.underlying31 hi (.slice none 0 0) 0 [] hs (World.ownsRow_nil _ _ _ _) (hx.trans hv) (h none 0 w (Ext.refl _) (fun i f hf => by cases hf))
    · refine wpList_append_own _ hgd s x 31 ho w.heap.size 33 i0 _ 17 152 Tryd.underlying31 hi hz0 hz1 hz2 rfl (by decide) (.slice none 0 0) 0 [] hs (World.ownsRow_nil _ _ _ _) ⟨g, 0, none⟩ 0 cap [] (hx.trans hv) rfl (fun j u hj => by cases hj) (fun u hu => by cases hu) (by decide) (by decide) (Nat.le_refl _) ?_
      intro v' w' h1 h2 h3
      have e := h3.2 ⟨rfl, rfl⟩
      subst e
      exact h none 0 w' ⟨h2.os, h2.tape, h2.output, h2.size, fun k hk => h2.block k hk (fun e => by cases e)⟩ (fun i f hf => by cases hf)
  · obtain ⟨g, cap, hv, hb, hg, hN⟩ := owned_nodes hown hl
    refine wpList_append_own _ hgd s x 31 ho w.heap.size 33 i0 _ 17 152 Tryd.underlying31 hi hz0 hz1 hz2 rfl (by decide) (.slice none 0 0) 0 [] hs (World.ownsRow_nil _ _ _ _) ⟨g, 0, none⟩ l.length cap (fcells l) (hx.trans hv) (fcells_len l) ?c1 ?c2 ?c3 ?c4 (Nat.le_refl _) ?_
    case c1 =>
      intro j u hj
      have hadd : (⟨g, 0, none⟩ : Addr).add j = ⟨g, j, none⟩ := by unfold Addr.add; split <;> simp_all
      rw [hadd]
      have hjl : j < l.length * 17 := by have := (List.getElem?_eq_some_iff.1 hj).1; rwa [fcells_len] at this
      obtain ⟨f, hf⟩ : ∃ f, l[j / 17]? = some f := ⟨_, List.getElem?_eq_getElem (by omega)⟩
      have h1 := fcells_at (j := j % 17) hf (by omega)
      rw [show j / 17 * 17 + j % 17 = j by omega, hj] at h1
      have h2 := hN (j / 17) f hf (j % 17) u h1.symm
      rwa [show 0 + j / 17 * 17 + j % 17 = j by omega] at h2
    case c2 =>
      intro u hu
      obtain ⟨f, -, hu'⟩ := List.mem_flatMap.1 hu
      exact fl_one f u hu'
    case c3 => unfold maxLen; omega
    case c4 => omega
    intro v' w' h1 h2 h3
    rw [Nat.zero_add, List.nil_append] at h1
    obtain ⟨g', cap', rfl, hb', hg', hN'⟩ := owned_nodes h1 hl
    exact h _ cap' w' ⟨h2.os, h2.tape, h2.output, h2.size, fun k hk => h2.block k hk (fun e => by cases e)⟩ (fun i f hf => ⟨g', 0, rfl, hb', hN' i f hf⟩)
def isApp : Op → Bool
  | .call c => match c.callee with
    | .builtin .append => true
    | _ => false
  | _ => false
set_option maxRecDepth 100000 in
set_option maxHeartbeats 4000000 in
theorem apply_any (F : Int) (v : Value) (l : List Fl) (ts : List Tr) (base : Nat) (S : Nat → Prop) (W : World) (hown : W.ownsRow base 33 17 v l.length (fcells l)) (hl : l.length = ts.length) (hn : l.length ≤ 1000)
    (hk : ∀ (i : Nat) t f, ts[i]? = some t → l[i]? = some f → Rep W S t f) (hS : ∀ g, W.heap.size ≤ g → S g) :
    Calls Tryd.prog 70 #[.int .i64 F, v] W fun e w' => (∃ r, e = .returned r.val ∧ Rep w' S (.mk (parS 8 F) ts) r) ∧ Ext W w' := by
  obtain ⟨W1, hW1, hE1, hG1, hL1, hS1⟩ := new_blk W #[.int .i64 0, .int .i64 0, .int .i64 0, .int .i64 0, .string ⟨#[]⟩, .int .i64 0, .int .i64 0, .int .i64 0, .bool false, .bool false, .int .i64 0, .int .i64 0, .int .i64 0, .bool false, .bool false, .string ⟨#[]⟩, .slice none 0 0] 33
  have hown1 : W1.ownsRow base 33 17 v l.length (fcells l) := by rw [← hW1]; exact hown.alloc _
  have hlen : l.length < 1000000 := by omega
  have HW1 := Lib.hid hW1
  have HE1 := Lib.hid hE1
  have HG1 := Lib.hid hG1
  have HK := Lib.hid hk
  have HS := Lib.hid hS
  have HN := Lib.hid hn
  have HL := Lib.hid hl
  have HOWN := Lib.hid hown1
  have HLEN := Lib.hid hlen
  clear hW1 hE1 hG1 hL1 hS1 hown hl hn hk hS hown1 hlen
  go_enter Tryd.func70, Tryd.ntmps70
  go_upto_region 1 with (fail)
  rw [HW1.out]
  clear HW1
  go_wp2_with (first
    | ((with_reducible refine wpl_guard isApp ?_ ?_); (· rfl); refine app_copy rfl _ _ rfl v l rfl rfl HOWN.out HLEN.out (fun p cap w' hE hN => ?_); have hg := hE.blk HG1.out)
    | ((with_reducible refine wpl_guard (isBuild 33) ?_ ?_); (· rfl); refine wpl_build rfl 33 _ rfl (built_par _ _ _ _ _) ?_ ?_; (· rfl)) | ((with_reducible refine wpl_guard (isStore 33) ?_ ?_); (· rfl); refine wpl_store (t := ?_) (old := ?_) (w' := ?_) rfl 33 _ _ rfl rfl rfl ?_ ?_ ?_ ?_ ?_ ?_; rotate_left 2; (· (first | (with_reducible assumption) | (simp (disch := (first | omega | (simp only [World.size_alloc, World.size_setCell, World.size_drew, size_setRow]; done) | (simp only [World.size_alloc, World.size_setCell, World.size_drew, size_setRow]; omega))) only [hq_at, hq_past, hq_drew, hq_drewN, hq_cell, hq_row, hq_same, rowOf_cells, Option.map_some, *]; rfl) | (simp (disch := (first | omega | (simp only [World.size_alloc, World.size_setCell, World.size_drew, size_setRow]; done) | (simp only [World.size_alloc, World.size_setCell, World.size_drew, size_setRow]; omega))) only [hq_at, hq_past, hq_drew, hq_drewN, hq_cell, hq_row, hq_same, rowOf_cells, Option.map_some, *]))); (· kernel_rfl); (· rfl); (· rfl); rotate_left 1; (· (first | (simp (disch := (first | omega | (simp only [World.size_alloc, World.size_setCell, World.size_drew, size_setRow]; done) | (simp only [World.size_alloc, World.size_setCell, World.size_drew, size_setRow]; omega))) only [setRow_at, setRow_past, setRow_drew]; rfl) | rfl))))
  have hE9 : Ext W (w'.setRow W.heap.size ((parS 8 F).fl p l.length cap).cells) := below_row (HE1.out.trans hE) (Nat.le_refl _)
  have hg9 : (w'.setRow W.heap.size ((parS 8 F).fl p l.length cap).cells).heap[W.heap.size]? = some (.cells ((parS 8 F).fl p l.length cap).cells 33 (0, 0)) := by rw [hq_same rfl, hg]; rfl
  refine ret_row rfl rfl hg9 Tryd.underlying33 rfl (by kernel_rfl) rfl ⟨⟨(parS 8 F).fl p l.length cap, rfl, ?_⟩, hE9⟩
  rw [HL.out]
  rw [HL.out] at hE9
  refine .mk (parS 8 F) ts p cap l (parS_ok _ _) (by have := HN.out; have := HL.out; omega) HL.out (fun i f hf => ?_) (fun i t f h1 h2 => (HK.out i t f h1 h2).ext hE9)
  obtain ⟨g, o, hp, hgg, hna⟩ := hN i f hf
  have hlt : W.heap.size < g := Nat.lt_of_lt_of_le (blk_lt HG1.out) hgg
  exact ⟨g, o, hp, HS.out g (Nat.le_of_lt hlt), hna.keeps (S := fun k => W.heap.size < k) hlt (fun k hk _ => setRow_other w' _ k _ (Nat.ne_of_gt hk))⟩
end Go.Proofs.YtffogjhjgmohiaaDoor
