/-
  Trees of nodes: how they lie in memory; a node read out of a slice. Conditions: each theorem's own.
-/
import Derived.Test.YtffogjhjgmohiaaDoorNodes
import Derived.Test.YtffogjhjgmohiaaDoorBlocks
namespace Go.Proofs.YtffogjhjgmohiaaDoor
open Go.RowKit
set_option linter.unusedVariables false
set_option linter.unusedSimpArgs false

section
variable {P : Program} {ops : Array Oper} {rest : List Oper} {o : Oper} {a : Act} {w : World} {Q : Exit → Act → World → Prop}
theorem run_loadVar_at (w : World) (g off : Nat) (ty : TypeId) (cs : Array Value) (d : TypeDesc) (hc : ∀ (j : Nat) v, cs[j]? = some v → w.cell? ⟨g, off + j, none⟩ = some v)
    (hu : P.underlying ty = some d) (hd : (match d with | .struct _ | .array _ _ => true | _ => false) = true) (hi : (P.info? ty).map (·.size) = some cs.size) :
    (loadVar ty ⟨g, off, none⟩).run P w = .ok (.agg cs) w := by
  have hl : (loadCells ⟨g, off, none⟩ cs.toList.length).run P w = .ok cs.toList.toArray w :=
    run_loadCells_list (P := P) w ⟨g, off, none⟩ cs.toList (fun j v hv => by
      have hadd : (⟨g, off, none⟩ : Addr).add j = ⟨g, off + j, none⟩ := by unfold Addr.add; split <;> simp_all
      rw [hadd]
      exact hc j v (by simpa using hv))
  cases hq : P.info? ty with
  | none => simp [hq] at hi
  | some i =>
    have hs : i.size = cs.size := by simpa [hq] using hi
    have hagg : (isAgg ty).run P w = .ok true w := by
      unfold isAgg
      rw [Sem.run_bind, run_underlying hu w]
      cases d <;> simp_all
    simp only [Array.length_toList, Array.toArray_toList] at hl
    simp [loadVar, Sem.run_bind, hagg, sizeOf, typeInfo, hq, hs, hl]
/-- .. at an operation with a guard that says yes. -/
theorem wpl_load_want (hw : Region.wanted o (yielded ops a.tmps) = true) (ty : TypeId) (x : Operand) (ho : o.op = .load ty x)
    {g : Nat} (hx : a.eval x = .pointer (some ⟨g, 0, none⟩)) {t : TypeId} {cs : Array Value} {fr : Nat × Nat} {d : TypeDesc} (hg : w.heap[g]? = some (.cells cs t fr))
    (hu : P.underlying ty = some d) (hd : (match d with | .struct _ | .array _ _ => true | _ => false) = true) (hi : (P.info? ty).map (·.size) = some cs.size)
    (h : wpList P ops Q rest (a.put o.dst (.agg cs)) w) : wpList P ops Q (o :: rest) a w := by
  unfold wpList
  rw [if_pos hw]
  exact .inl (wp_load_row ty x ho g hx t cs fr d hg hu hd hi h)
theorem wpl_load_at (hgd : o.guard = none) (ty : TypeId) (x : Operand) (ho : o.op = .load ty x)
    {g off : Nat} (hx : a.eval x = .pointer (some ⟨g, off, none⟩)) {cs : Array Value} {d : TypeDesc} (hc : ∀ (j : Nat) v, cs[j]? = some v → w.cell? ⟨g, off + j, none⟩ = some v)
    (hu : P.underlying ty = some d) (hd : (match d with | .struct _ | .array _ _ => true | _ => false) = true) (hi : (P.info? ty).map (·.size) = some cs.size)
    (h : wpList P ops Q rest (a.put o.dst (.agg cs)) w) : wpList P ops Q (o :: rest) a w :=
  wpList_plain hgd fun _ hK => by
    unfold Oper.wp execOp
    simp only [ho, hx, Instr.loadAt, Instr.sureAddr, Sem.run_bind, Sem.run_pure, Result.andThen_ok, run_loadVar_at w g off ty cs d hc hu hd hi]
    exact hK _ _ h
end
/-- A node's own cells, its parts apart. -/
structure Sc where
  k : Int
  op : Int
  vk : Int
  vn : Int
  vs : ByteArray
  A : Rf
  B : Rf
  nm : ByteArray
def Sc.ok (s : Sc) : Prop := (-9223372036854775808 ≤ s.vn ∧ s.vn ≤ 9223372036854775807) ∧ s.vs.size ≤ 9223372036854775807 ∧ s.nm.size ≤ 9223372036854775807
def Sc.fl (s : Sc) (l : Option Addr) (n cap : Nat) : Fl := ⟨s.k, s.op, s.vk, s.vn, s.vs, s.A, s.B, s.nm, l, n, cap⟩
inductive Tr where
  | mk (s : Sc) (l : List Tr)
def Tr.s : Tr → Sc
  | .mk s _ => s
def Tr.l : Tr → List Tr
  | .mk _ l => l
mutual
def sizeT : Tr → Nat
  | .mk _ l => 1 + sizeL l
def sizeL : List Tr → Nat
  | [] => 0
  | t :: l => sizeT t + sizeL l
end
theorem sizeL_append (l l' : List Tr) : sizeL (l ++ l') = sizeL l + sizeL l' := by
  induction l with
  | nil => simp [sizeL]
  | cons t l ih => simp only [List.cons_append, sizeL, ih]; omega
theorem sizeL_take {l : List Tr} {k : Nat} {t : Tr} (h : l[k]? = some t) : sizeL (l.take (k + 1)) = sizeL (l.take k) + sizeT t := by
  rw [List.take_add_one, h, sizeL_append]
  simp [sizeL]
theorem sizeL_mem {l : List Tr} {k : Nat} {t : Tr} (h : l[k]? = some t) : sizeT t ≤ sizeL l := by
  induction l generalizing k with
  | nil => cases h
  | cons u l ih =>
    cases k with
    | zero => cases h; simp only [sizeL]; omega
    | succ k => have := ih h; simp only [sizeL]; omega
theorem sizeL_take_le (l : List Tr) (k : Nat) : sizeL (l.take k) ≤ sizeL l := by
  have := sizeL_append (l.take k) (l.drop k)
  rw [List.take_append_drop] at this
  omega
/-- The cells of a node from an address on. -/
def NodeAt (W : World) (g o : Nat) (f : Fl) : Prop := ∀ (j : Nat) v, f.cells[j]? = some v → W.cell? ⟨g, o + j, none⟩ = some v
section
variable {P : Program} {ops : Array Oper} {rest : List Oper} {o : Oper} {a : Act} {w : World} {Q : Exit → Act → World → Prop}
theorem wpl_load_node (hgd : o.guard = none) (ty : TypeId) (x : Operand) (ho : o.op = .load ty x)
    {g off : Nat} (hx : a.eval x = .pointer (some ⟨g, off, none⟩)) {f : Fl} {d : TypeDesc} (hc : NodeAt w g off f)
    (hu : P.underlying ty = some d) (hd : (match d with | .struct _ | .array _ _ => true | _ => false) = true) (hi : (P.info? ty).map (·.size) = some f.cells.size)
    (h : wpList P ops Q rest (a.put o.dst (.agg f.cells)) w) : wpList P ops Q (o :: rest) a w := wpl_load_at hgd ty x ho hx hc hu hd hi h
end
/-- How a tree lies in memory: its parts one behind the other, in blocks of a set. -/
inductive Rep (W : World) (S : Nat → Prop) : Tr → Fl → Prop
  | mk (s : Sc) (ts : List Tr) (p : Option Addr) (cap : Nat) (fs : List Fl) (ho : s.ok) (hn : ts.length ≤ 1000) (hl : fs.length = ts.length)
      (hs : ∀ (i : Nat) f, fs[i]? = some f → ∃ g o, p = some ⟨g, o, none⟩ ∧ S g ∧ NodeAt W g (o + i * 17) f)
      (hk : ∀ (i : Nat) t f, ts[i]? = some t → fs[i]? = some f → Rep W S t f) : Rep W S (.mk s ts) (s.fl p ts.length cap)
/-- What lay in blocks of a set lies as it lay. -/
def KeepsB (S : Nat → Prop) (W w : World) : Prop := ∀ b, S b → b < W.heap.size → w.heap[b]? = W.heap[b]?
theorem KeepsB.of_ext {S : Nat → Prop} {W w : World} (h : Ext W w) : KeepsB S W w := fun b _ hb => Below.block h b hb
theorem NodeAt.lt {W : World} {g o : Nat} {f : Fl} (h : NodeAt W g o f) : g < W.heap.size := World.block_lt_of_cell? _ _ (h 0 (.int .i64 f.k) rfl)
theorem NodeAt.keeps {W w : World} {S : Nat → Prop} {g o : Nat} {f : Fl} (h : NodeAt W g o f) (hB : S g) (hE : KeepsB S W w) : NodeAt w g o f := fun j v hj => by
  have h1 := h j v hj
  rw [← h1]
  simp only [World.cell?, hE g hB h.lt]
theorem Rep.keeps {W w : World} {S : Nat → Prop} {t : Tr} {f : Fl} (h : Rep W S t f) (hE : KeepsB S W w) : Rep w S t f := by
  induction h with
  | mk s ts p cap fs ho hn hl hs hk ih =>
    refine .mk s ts p cap fs ho hn hl (fun i f hf => ?_) ih
    obtain ⟨g, o, hp, hB, hN⟩ := hs i f hf
    exact ⟨g, o, hp, hB, hN.keeps hB hE⟩
theorem Rep.ext {W w : World} {S : Nat → Prop} {t : Tr} {f : Fl} (h : Rep W S t f) (hE : Ext W w) : Rep w S t f := h.keeps (.of_ext hE)
theorem Rep.imp' {W : World} {S S' : Nat → Prop} {t : Tr} {f : Fl} (h : Rep W S t f) (hS : ∀ g, S g → g < W.heap.size → S' g) : Rep W S' t f := by
  induction h with
  | mk s ts p cap fs ho hn hl hs hk ih =>
    refine .mk s ts p cap fs ho hn hl (fun i f hf => ?_) ih
    obtain ⟨g, o, hp, hb, hN⟩ := hs i f hf
    exact ⟨g, o, hp, hS g hb hN.lt, hN⟩
theorem Rep.leaf (W : World) (S : Nat → Prop) (s : Sc) (ho : s.ok) (p : Option Addr) (cap : Nat) : Rep W S (.mk s []) (s.fl p 0 cap) :=
  .mk s [] p cap [] ho (by simp) rfl (fun i f h => by cases h) (fun i t f h => by cases h)
end Go.Proofs.YtffogjhjgmohiaaDoor
