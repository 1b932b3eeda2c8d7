/-
  texts: slices of numbers that a region makes; the law's fit: walks. Conditions: each theorem's own.
-/
import Derived.Test.YtmdlahkmnjmanaaDoorTextsA
import Derived.Test.YtmdlahkmnjmanaaDoorTurns
namespace Go.Proofs.YtmdlahkmnjmanaaDoor
open Go.RowKit Num
set_option linter.unusedVariables false
set_option linter.unusedSimpArgs false

theorem neq_value_self (k n : Int) (s : ByteArray) (w : World) : Sem.run Tryd.prog (binOp .neq 24 (.agg #[.int .i64 k, .int .i64 n, .string s]) (.agg #[.int .i64 k, .int .i64 n, .string s])) w = .ok (.bool false) w := by
  simp [go_sem]
/-- A slice of numbers that the region makes. -/
def SlN (l : List Int) (v : Value) (w : World) : Prop := ∃ g, v = .slice (some ⟨g, 0, none⟩) l.length l.length ∧ w.heap[g]? = some (.cells (l.map (Value.int .i64)).toArray 2 (0, 0))
theorem SlN.lasts (l : List Int) : Lasts (SlN l) := fun v w w' ⟨g, hv, h⟩ hE => ⟨g, hv, hE.blk h⟩
theorem SlN.new (w : World) (l : List Int) : SlN l (.slice (some ⟨w.heap.size, 0, none⟩) l.length l.length) (w.alloc (.cells (l.map (Value.int .i64)).toArray 2)) := ⟨_, rfl, hq_at _ _ rfl⟩
theorem SlN.cell {l : List Int} {g : Nat} {w : World} (h : w.heap[g]? = some (.cells (l.map (Value.int .i64)).toArray 2 (0, 0))) (j : Nat) (z : Int) (hz : l[j]? = some z) : w.cell? ⟨g, j, none⟩ = some (.int .i64 z) := by
  rw [cell_of_row w g j _ _ _ h]
  simp [hz]
theorem new_cell (w : World) (cs : Array Value) (t : TypeId) (j : Nat) : (w.alloc (.cells cs t)).cell? ⟨w.heap.size, j, none⟩ = cs[j]? := cell_of_row _ _ j cs t (0, 0) (hq_at _ _ rfl)
theorem new_lt (w : World) (o : Obj) : w.heap.size < (w.alloc o).heap.size := by simp
theorem neg_left (s : ByteArray) (v : Value) (w : World) (h : SlN [-1000000] v w) (hs : s.size ≤ 64) :
    Calls Tryd.prog 9 #[.string ⟨#[76, 69, 70, 84]⟩, .string s, v] w fun e w' => e = .returned (.agg #[.int .i64 4, .int .i64 2, .string ⟨#[]⟩]) ∧ Ext w w' := by
  obtain ⟨g, rfl, hb⟩ := h
  exact part_neg_LEFT s g w (SlN.cell hb 0 _ rfl) (blk_lt hb) hs
theorem neg_rept (s : ByteArray) (v : Value) (w : World) (h : SlN [-1000000] v w) (hs : s.size ≤ 64) :
    Calls Tryd.prog 9 #[.string ⟨#[82, 69, 80, 84]⟩, .string s, v] w fun e w' => e = .returned (.agg #[.int .i64 4, .int .i64 2, .string ⟨#[]⟩]) ∧ Ext w w' := by
  obtain ⟨g, rfl, hb⟩ := h
  exact part_neg_REPT s g w (SlN.cell hb 0 _ rfl) (blk_lt hb) hs
theorem other_sl (s : ByteArray) (v : Value) (w : World) (h : SlN [0] v w) (hs : s.size ≤ 64) :
    Calls Tryd.prog 9 #[.string ⟨#[77, 73, 68, 68, 76, 69]⟩, .string s, v] w fun e w' => e = .returned (.agg #[.int .i64 4, .int .i64 2, .string ⟨#[]⟩]) ∧ Ext w w' := by
  obtain ⟨g, rfl, hb⟩ := h
  exact part_other s g w (SlN.cell hb 0 _ rfl) (blk_lt hb) hs
theorem fit_t (w : World) (ht : Tab w) : Calls Tryd.prog 8 #[] w fun e w' => e = .returned (.bool true) ∧ Ext w w' := by
  have c2 := fun w => text_v ⟨#[98, 99]⟩ w
  have c3 := fun w => text_v ⟨#[97]⟩ w
  have c4 := fun w (ht : Tab w) => show_v (.text ⟨#[97]⟩) w (show ByteArray.size ⟨#[97]⟩ ≤ 64 by decide) ht
  rw [show textOf ⟨#[98, 99]⟩ = .text ⟨#[98, 99]⟩ from rfl] at c2
  rw [show textOf ⟨#[97]⟩ = .text ⟨#[97]⟩ from rfl] at c3
  have C2 : Hid (∀ w, Calls Tryd.prog 11 #[.string ⟨#[98, 99]⟩] w fun e w' => e = .returned (.agg #[.int .i64 2, .int .i64 0, .string ⟨#[98, 99]⟩]) ∧ Ext w w') := Lib.hid c2
  have C3 : Hid (∀ w, Calls Tryd.prog 11 #[.string ⟨#[97]⟩] w fun e w' => e = .returned (.agg #[.int .i64 2, .int .i64 0, .string ⟨#[97]⟩]) ∧ Ext w w') := Lib.hid c3
  have C4 : Hid (∀ w, Tab w → Calls Tryd.prog 17 #[.agg #[.int .i64 2, .int .i64 0, .string ⟨#[97]⟩]] w fun e w' => e = .returned (.string ⟨#[97]⟩) ∧ Ext w w') := Lib.hid c4
  have HT := Lib.hid ht
  clear c2 c3 c4 ht
  go_enter Tryd.func8, Tryd.ntmps8
  go_wp2_with fail
  refine (part_mid 2 5 3 1 3 ⟨#[97, 98, 99]⟩ _ _ ⟨by decide, by decide⟩ ⟨by decide, by decide⟩ (by decide) (by decide) (by decide) (new_cell _ _ _ 0) (new_cell _ _ _ 1) (new_lt _ _) (by decide)).mono ?_
  rintro e w1 ⟨rfl, hE1⟩
  rw [show ByteArray.extract ⟨#[97, 98, 99]⟩ 1 3 = ⟨#[98, 99]⟩ by decide +kernel]
  go_wp2_with fail
  refine (C2.out _).mono ?_
  rintro e w2 ⟨rfl, hE2⟩
  go_wp2_with fail
  refine (C3.out _).mono ?_
  rintro e w3 ⟨rfl, hE3⟩
  have hX := (ext_dig hE1).trans (hE2.trans hE3)
  have HX := Lib.hid hX
  clear hE1 hE2 hE3 hX
  go_wp2_with fail
  refine (C4.out _ (HT.out.ext HX.out)).mono ?_
  rintro e w4 ⟨rfl, hE4⟩
  go_wp2_with fail
  go_ret
  exact ⟨rfl, HX.out.trans hE4⟩
end Go.Proofs.YtmdlahkmnjmanaaDoor
