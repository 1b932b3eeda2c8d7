/-
  Bytes that a call gathers: an append of one byte to a slice of the call's own; such a slice as a text. Conditions: each theorem's own.
-/
import Derived.Test.YtbnebiobahajjaaGreatDoorPrintP
import Derived.Test.YtbnebiobahajjaaGreatDoorRows
import Derived.OwnWalk
import Derived.Laws.IdiomStrings
namespace Go.Proofs.YtbnebiobahajjaaGreatDoor
open Go.RowKit Num
set_option linter.unusedVariables false

theorem u8_info : (Tryz.prog.info? 5).map (fun i => (i.zero, i.size, i.bytes)) = some (some (.int .u8 0), 1, 1) := by kernel_rfl

/-- append(out, c): out is the call's own and holds l; behind it it holds l, and c. -/
theorem app_byte {W w : World} {ops : Array Oper} {rest : List Oper} {o : Oper} {a : Act} {Q : Exit → Act → World → Prop} (hgd : o.guard = none) (s x : Operand)
    (ho : o.op = .call { callee := .builtin .append, args := #[s, x], argTypes := #[22, 22] }) (v : Value) (l : List UInt8) (hs : a.eval s = v)
    (hown : w.ownsRow W.heap.size 5 1 v l.length (bv l)) (hb : Below W.heap.size W w) (X : Int) (c : UInt8) (hX : X = (c.toNat : Int))
    (hx : a.eval x = .slice (some ⟨w.heap.size, 0, none⟩) 1 1) (hlen : l.length < 100000000000000)
    (h : ∀ v' w', w'.ownsRow W.heap.size 5 1 v' (l ++ [c]).length (bv (l ++ [c])) → Below W.heap.size W w' → v' ≠ .slice none 0 0 → wpList Tryz.prog ops Q rest (a.put o.dst v') w') :
    wpList Tryz.prog ops Q (o :: rest) a (w.alloc (.cells #[.int .u8 X] 5)) := by
  obtain ⟨i0, hi, hz0, hz1, hz2⟩ := info_parts u8_info
  subst hX
  refine wpList_append_own _ hgd s x 22 ho W.heap.size 5 i0 (.int .u8 0) 1 1 Tryz.underlying22 hi hz0 hz1 hz2 rfl (by decide) v _ _ hs (hown.alloc _) ⟨w.heap.size, 0, none⟩ 1 1 [.int .u8 (c.toNat : Int)] hx rfl ?c1 ?c2 ?c3 ?c4 ?c5 ?_
  case c1 =>
    intro j u hj
    match j, hj with
    | 0, hj => simp at hj; subst hj; simp [Addr.add]
  case c2 => intro u hu; simp at hu; subst hu; rfl
  case c3 => unfold maxLen; omega
  case c4 => omega
  case c5 => have := hb.size; simp; omega
  intro v' w' h1 h2 h3
  refine h v' w' ?_ ?_ ?_
  · rw [bv_snoc] at h1
    simpa using h1
  · exact (hb.alloc hb.size _).grown h2 (by have := hb.size; simp; omega) fun k hk => (hown.lt k hk).1
  · intro e; have := (h3.1 e).2; omega

/-- A slice of the call's own that is not nil: where it lies. -/
theorem own_addr {w : World} {B : Nat} {v : Value} {l : List UInt8} (h : w.ownsRow B 5 1 v l.length (bv l)) (hl : l ≠ []) : ∃ g cap, v = .slice (some ⟨g, 0, none⟩) l.length cap ∧ B ≤ g ∧ g < w.heap.size ∧ l.length ≤ cap := by
  rcases h.2 with ⟨_, h0⟩ | ⟨g, cap, cur, rfl, hB, hg, hc, _⟩
  · exact absurd (List.length_eq_zero_iff.1 h0) hl
  · refine ⟨g, cap, rfl, hB, ?_, hc⟩
    exact (Array.getElem?_eq_some_iff.1 hg).1
theorem own_cell {w : World} {B g cap n : Nat} {l : List UInt8} (h : w.ownsRow B 5 1 (.slice (some ⟨g, 0, none⟩) n cap) n (bv l)) (hn : l.length = n) (j : Nat) (hj : j < n) :
    w.cell? ⟨g, j, none⟩ = some (.int .u8 ((l.getD j 0).toNat : Int)) := by
  rw [h.cellAt j (by omega), bv_get l j (by omega)]
theorem add0 (g j : Nat) : (⟨g, 0, none⟩ : Addr).add j = ⟨g, j, none⟩ := by unfold Addr.add; split <;> simp_all
/-- string(out). -/
theorem own_text {w : World} {B g cap n : Nat} {l : List UInt8} (h : w.ownsRow B 5 1 (.slice (some ⟨g, 0, none⟩) n cap) n (bv l)) (hn : l.length = n) :
    (convert 22 9 (.slice (some ⟨g, 0, none⟩) n cap)).run Tryz.prog w = .ok (.string ⟨l.toArray⟩) w := by
  subst hn
  refine run_convert_bytes_back w 22 9 5 ⟨g, 0, none⟩ cap l Tryz.underlying22 Tryz.underlying5 Tryz.underlying9 fun j hj => ?_
  have := own_cell h rfl j hj
  rw [List.getD_eq_getElem?_getD, List.getElem?_eq_getElem hj] at this
  rw [add0]
  exact this
/-- One store into such a slice. -/
theorem own_set {w : World} {B g cap n : Nat} {l : List UInt8} (h : w.ownsRow B 5 1 (.slice (some ⟨g, 0, none⟩) n cap) n (bv l)) (j : Nat) (c : UInt8) :
    (w.setCell ⟨g, j, none⟩ (.int .u8 (c.toNat : Int))).ownsRow B 5 1 (.slice (some ⟨g, 0, none⟩) n cap) n (bv (l.set j c)) := by
  have := (h.stored j (.int .u8 (c.toNat : Int))).1
  rwa [bv_set] at this

end Go.Proofs.YtbnebiobahajjaaGreatDoor
