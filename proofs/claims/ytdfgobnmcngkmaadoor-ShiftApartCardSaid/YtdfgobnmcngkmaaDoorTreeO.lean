/-
  tree: Apply: walk. Conditions: each theorem's own.
-/
import Derived.Test.YtdfgobnmcngkmaaDoorTreeN
import Derived.Laws.AppendOwnNone
import Derived.Deep.CutBlock
import Derived.Deep.DeepCutAuto
namespace Go.Proofs.YtdfgobnmcngkmaaDoor
open Go.RowKit
set_option linter.unusedVariables false
set_option linter.unusedSimpArgs false

/-- What was gathered, copied. -/
theorem app_copy {base : Nat} {w : World} {ops : Array Oper} {rest : List Oper} {o : Oper} {a : Act} {Q : Exit → Act → World → Prop} (hgd : o.guard = none) (s x : Operand)
    (ho : o.op = .call { callee := .builtin .append, args := #[s, x], argTypes := #[31, 31] }) (v : Value) (l : List Fl) (hs : a.eval s = .slice none 0 0) (hx : a.eval x = v)
    (hown : w.ownsRow base 33 17 v l.length (fcells l)) (hlen : l.length < 1000000)
    (h : ∀ p cap w', Ext w w' → (∀ (i : Nat) f, l[i]? = some f → ∃ g o, p = some ⟨g, o, none⟩ ∧ w.heap.size ≤ g ∧ NodeAt w' g (o + i * 17) f) → wpList Tryd.prog ops Q rest (a.put o.dst (.slice p l.length cap)) w') :
    wpList Tryd.prog ops Q (o :: rest) a w := by
  obtain ⟨i0, hi, hz0, hz1, hz2⟩ := info_parts node_info
  by_cases hl : l = []
  · subst hl
    obtain ⟨-, ⟨hv, -⟩ | ⟨g, cap, cur, hv, hb, hg, hn, -, -, ht⟩⟩ := hown
    · exact wpList_append_own_none hgd s x 31 ho w.heap.size 33 i0 17 Tryd.underlying31 hi (.slice none 0 0) 0 [] hs (World.ownsRow_nil _ _ _ _) (hx.trans hv) (h none 0 w (Ext.refl _) (fun i f hf => by cases hf))
    · refine wpList_append_own _ hgd s x 31 ho w.heap.size 33 i0 _ 17 152 Tryd.underlying31 hi hz0 hz1 hz2 rfl (by decide) (.slice none 0 0) 0 [] hs (World.ownsRow_nil _ _ _ _) ⟨g, 0, none⟩ 0 cap [] (hx.trans hv) rfl (fun j u hj => by cases hj) (fun u hu => by cases hu) (by decide) (by decide) (Nat.le_refl _) ?_
      intro v' w' h1 h2 h3
      have e := h3.2 ⟨rfl, rfl⟩
      subst e
      exact h none 0 w' ⟨h2.os, h2.tape, h2.output, h2.size, fun k hk => h2.block k hk (fun e => by cases e)⟩ (fun i f hf => by cases hf)
  · obtain ⟨g, cap, hv, hb, hg, hN⟩ := owned_nodes hown hl
    refine wpList_append_own _ hgd s x 31 ho w.heap.size 33 i0 _ 17 152 Tryd.underlying31 hi hz0 hz1 hz2 rfl (by decide) (.slice none 0 0) 0 [] hs (World.ownsRow_nil _ _ _ _) ⟨g, 0, none⟩ l.length cap (fcells l) (hx.trans hv) (fcells_len l) ?c1 ?c2 ?c3 ?c4 (Nat.le_refl _) ?_
    case c1 =>
      intro j u hj
      have hadd : (⟨g, 0, none⟩ : Addr).add j = ⟨g, j, none⟩ := by unfold Addr.add; split <;> simp_all
      rw [hadd]
      have hjl : j < l.length * 17 := by have := (List.getElem?_eq_some_iff.1 hj).1; rwa [fcells_len] at this
      obtain ⟨f, hf⟩ : ∃ f, l[j / 17]? = some f := ⟨_, List.getElem?_eq_getElem (by omega)⟩
      have h1 := fcells_at (j := j % 17) hf (by omega)
      rw [show j / 17 * 17 + j % 17 = j by omega, hj] at h1
      have h2 := hN (j / 17) f hf (j % 17) u h1.symm
      rwa [show 0 + j / 17 * 17 + j % 17 = j by omega] at h2
    case c2 =>
      intro u hu
      obtain ⟨f, -, hu'⟩ := List.mem_flatMap.1 hu
      exact fl_one f u hu'
    case c3 => unfold maxLen; omega
    case c4 => omega
    intro v' w' h1 h2 h3
    rw [Nat.zero_add, List.nil_append] at h1
    obtain ⟨g', cap', rfl, hb', hg', hN'⟩ := owned_nodes h1 hl
    exact h _ cap' w' ⟨h2.os, h2.tape, h2.output, h2.size, fun k hk => h2.block k hk (fun e => by cases e)⟩ (fun i f hf => ⟨g', 0, rfl, hb', hN' i f hf⟩)
def isApp : Op → Bool
  | .call c => match c.callee with
    | .builtin .append => true
    | _ => false
  | _ => false
set_option maxRecDepth 100000 in
set_option maxHeartbeats 4000000 in
theorem apply_any (F : Int) (v : Value) (l : List Fl) (ts : List Tr) (base : Nat) (S : Nat → Prop) (W : World) (hown : W.ownsRow base 33 17 v l.length (fcells l)) (hl : l.length = ts.length) (hn : l.length ≤ 1000)
    (hk : ∀ (i : Nat) t f, ts[i]? = some t → l[i]? = some f → Rep W S t f) (hS : ∀ g, W.heap.size ≤ g → S g) :
    Calls Tryd.prog 29 #[.int .i64 F, v] W fun e w' => (∃ r, e = .returned r.val ∧ Rep w' S (.mk (parS 8 F) ts) r) ∧ Ext W w' := by
  obtain ⟨W1, hW1, hE1, hG1, hL1, hS1⟩ := new_blk W #[.int .i64 0, .int .i64 0, .int .i64 0, .int .i64 0, .string ⟨#[]⟩, .int .i64 0, .int .i64 0, .int .i64 0, .bool false, .bool false, .int .i64 0, .int .i64 0, .int .i64 0, .bool false, .bool false, .string ⟨#[]⟩, .slice none 0 0] 33
  have hown1 : W1.ownsRow base 33 17 v l.length (fcells l) := by rw [← hW1]; exact hown.alloc _
  have hlen : l.length < 1000000 := by omega
  have HW1 := Lib.hid hW1
  have HE1 := Lib.hid hE1
  have HG1 := Lib.hid hG1
  have HK := Lib.hid hk
  have HS := Lib.hid hS
  have HN := Lib.hid hn
  have HL := Lib.hid hl
  have HOWN := Lib.hid hown1
  have HLEN := Lib.hid hlen
  clear hW1 hE1 hG1 hL1 hS1 hown hl hn hk hS hown1 hlen
  go_enter Tryd.func29, Tryd.ntmps29
  go_upto_region 1 with (fail)
  rw [HW1.out]
  clear HW1
  go_wp2_with (first
    | ((with_reducible refine wpl_guard isApp ?_ ?_); (· rfl); refine app_copy rfl _ _ rfl v l rfl rfl HOWN.out HLEN.out (fun p cap w' hE hN => ?_); have hg := hE.blk HG1.out)
    | ((with_reducible refine wpl_guard (isBuild 33) ?_ ?_); (· rfl); refine wpl_build rfl 33 _ rfl (built_par _ _ _ _ _) ?_ ?_; (· rfl)) | ((with_reducible refine wpl_guard (isStore 33) ?_ ?_); (· rfl); refine wpl_store (t := ?_) (old := ?_) (w' := ?_) rfl 33 _ _ rfl rfl rfl ?_ ?_ ?_ ?_ ?_ ?_; rotate_left 2; (· (first | (with_reducible assumption) | (simp (disch := (first | omega | (simp only [World.size_alloc, World.size_setCell, World.size_drew, size_setRow]; done) | (simp only [World.size_alloc, World.size_setCell, World.size_drew, size_setRow]; omega))) only [hq_at, hq_past, hq_drew, hq_drewN, hq_cell, hq_row, hq_same, rowOf_cells, Option.map_some, *]; rfl) | (simp (disch := (first | omega | (simp only [World.size_alloc, World.size_setCell, World.size_drew, size_setRow]; done) | (simp only [World.size_alloc, World.size_setCell, World.size_drew, size_setRow]; omega))) only [hq_at, hq_past, hq_drew, hq_drewN, hq_cell, hq_row, hq_same, rowOf_cells, Option.map_some, *]))); (· kernel_rfl); (· rfl); (· rfl); rotate_left 1; (· (first | (simp (disch := (first | omega | (simp only [World.size_alloc, World.size_setCell, World.size_drew, size_setRow]; done) | (simp only [World.size_alloc, World.size_setCell, World.size_drew, size_setRow]; omega))) only [setRow_at, setRow_past, setRow_drew]; rfl) | rfl))))
  have hE9 : Ext W (w'.setRow W.heap.size ((parS 8 F).fl p l.length cap).cells) := below_row (HE1.out.trans hE) (Nat.le_refl _)
  have hg9 : (w'.setRow W.heap.size ((parS 8 F).fl p l.length cap).cells).heap[W.heap.size]? = some (.cells ((parS 8 F).fl p l.length cap).cells 33 (0, 0)) := by rw [hq_same rfl, hg]; rfl
  refine ret_row rfl rfl hg9 Tryd.underlying33 rfl (by kernel_rfl) rfl ⟨⟨(parS 8 F).fl p l.length cap, rfl, ?_⟩, hE9⟩
  rw [HL.out]
  rw [HL.out] at hE9
  refine .mk (parS 8 F) ts p cap l (parS_ok _ _) (by have := HN.out; have := HL.out; omega) HL.out (fun i f hf => ?_) (fun i t f h1 h2 => (HK.out i t f h1 h2).ext hE9)
  obtain ⟨g, o, hp, hgg, hna⟩ := hN i f hf
  have hlt : W.heap.size < g := Nat.lt_of_lt_of_le (blk_lt HG1.out) hgg
  exact ⟨g, o, hp, HS.out g (Nat.le_of_lt hlt), hna.keeps (S := fun k => W.heap.size < k) hlt (fun k hk _ => setRow_other w' _ k _ (Nat.ne_of_gt hk))⟩
end Go.Proofs.YtdfgobnmcngkmaaDoor
