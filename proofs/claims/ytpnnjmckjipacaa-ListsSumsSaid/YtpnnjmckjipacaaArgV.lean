/-
  Values, and slices of them, that came in. Conditions: each theorem's own.
-/
import Derived.Test.YtpnnjmckjipacaaVals
import Derived.Deep.Slices
import Derived.Deep.Strs
import Derived.OpenShut
import Derived.Lib.SmallJoins
import Derived.Laws.AppendOwnNone
namespace Go.Proofs.Ytpnnjmckjipacaa
open Go.RowKit Go.Deep Go.ChangeShapes Go.WideShapes
set_option linter.unusedVariables false

/-- Any value that Go may hold. -/
def VW (v : Vl) : Prop := (-9223372036854775808 ≤ v.k ∧ v.k ≤ 9223372036854775807) ∧ (-9223372036854775808 ≤ v.n ∧ v.n ≤ 9223372036854775807)
/-- The slice that came in holds L. -/
def VArg (w : World) (a : Option Addr) (len cap : Nat) (L : List Vl) : Prop := VIn w a len L ∧ (∀ v ∈ L, VW v) ∧ len ≤ cap ∧ (a = none → len = 0 ∧ cap = 0)
theorem VArg.at {w : World} {a : Option Addr} {len cap : Nat} {L : List Vl} (h : VArg w a len cap L) {j : Nat} (hj : j < len) : VW (L.getD j v0) := by
  have hl := h.1.1
  rw [List.getD_eq_getElem?_getD, List.getElem?_eq_getElem (by omega)]
  exact h.2.1 _ (List.getElem_mem _)

/-- append(out, src...) of values. -/
theorem app_vals {W w : World} {ops : Array Oper} {rest : List Oper} {o : Oper} {a : Act} {Q : Exit → Act → World → Prop} (hgd : o.guard = none) (s x : Operand)
    (ho : o.op = .call { callee := .builtin .append, args := #[s, x], argTypes := #[22, 22] }) (v : Value) (l : List Vl) (hs : a.eval s = v)
    (hown : w.ownsRow W.heap.size 26 3 v l.length (vcells l)) (hb : Below W.heap.size W w) (src : Option Addr) (len cap : Nat) (M : List Vl) (hx : a.eval x = .slice src len cap)
    (hin : VIn w src len M) (hnil : src = none → len = 0 ∧ cap = 0) (hlen : l.length + len ≤ 4398046511104)
    (h : ∀ v' w', w'.ownsRow W.heap.size 26 3 v' (l ++ M).length (vcells (l ++ M)) → Below W.heap.size W w' → wpList Try.prog ops Q rest (a.put o.dst v') w') :
    wpList Try.prog ops Q (o :: rest) a w := by
  obtain ⟨i0, hi, hz0, hz1, hz2⟩ := info_parts val_info
  cases src with
  | none =>
    obtain ⟨rfl, rfl⟩ := hnil rfl
    have hM : M = [] := List.length_eq_zero_iff.1 hin.1
    subst hM
    rw [List.append_nil] at h
    exact wpList_append_own_none hgd s x 22 ho W.heap.size 26 i0 3 Try.underlying22 hi v _ _ hs hown hx (h v w hown hb)
  | some ad =>
    have hM := hin.1
    refine wpList_append_own _ hgd s x 22 ho W.heap.size 26 i0 _ 3 32 Try.underlying22 hi hz0 hz1 hz2 rfl (by decide) v _ _ hs hown ad len cap (vcells M) hx (by rw [vcells_len, hM]) ?c1 ?c2 ?c3 ?c4 hb.size ?_
    case c1 =>
      intro j u hj
      have hj3 : j < len * 3 := by
        have := (List.getElem?_eq_some_iff.1 hj).1
        rw [vcells_len, hM] at this
        exact this
      obtain ⟨b, off, hbo, hB, hc⟩ := hin.2 (by omega)
      obtain rfl : ad = ⟨b, off, none⟩ := by simpa using hbo
      rw [Go.WideShapes.add_plain]
      obtain ⟨h1, h2, h3⟩ := hc (j / 3) (by rw [hM]; omega)
      obtain ⟨k1, k2, k3⟩ := vcells_at M (j / 3) (by rw [hM]; omega)
      have hj' : j = j / 3 * 3 ∨ j = j / 3 * 3 + 1 ∨ j = j / 3 * 3 + 2 := by omega
      rcases hj' with e | e | e
      · rw [e] at hj ⊢; rw [k1] at hj; cases hj; exact h1
      · rw [e] at hj ⊢; rw [k2] at hj; cases hj; rw [← Nat.add_assoc]; exact h2
      · rw [e] at hj ⊢; rw [k3] at hj; cases hj; rw [← Nat.add_assoc]; exact h3
    case c2 =>
      intro u hu
      unfold vcells at hu
      simp only [List.mem_flatten, List.mem_map] at hu
      obtain ⟨_, ⟨v, _, rfl⟩, hu⟩ := hu
      simp [Vl.cells] at hu
      rcases hu with rfl | rfl | rfl <;> rfl
    case c3 => unfold maxLen; omega
    case c4 => omega
    intro v' w' h1 h2 h3
    refine h v' w' ?_ ?_
    · rw [List.length_append, hM, vcells_app]; exact h1
    · exact hb.grown h2 hb.size fun k hk => (hown.lt k hk).1

section
variable {H : Type} {enc : TypeId × Value → H} {w : World} {base : Nat} {spare : Nat → Bool} {held : Bool}
theorem trod_vl {fuel : Nat} {cs : List Value} {x : DataW H × List MemPlace} (h : DataW.trod enc Try.prog w base spare held fuel 26 cs = some x) :
    ∃ v : Vl, cs = v.cells ∧ VW v := by
  obtain ⟨y0, y1, y2, n, hx, hl, h0, h1, h2⟩ := trod_struct3 Try.underlying26 h
  have hC : Try.prog.cellsOf 26 = 3 := by kernel_rfl
  have c0 : Try.prog.cellsOf 3 = 1 := by kernel_rfl
  have c1 : Try.prog.cellsOf 2 = 1 := by kernel_rfl
  have c2 : Try.prog.cellsOf 9 = 1 := by kernel_rfl
  rw [hC] at hl
  match cs, hl with
  | [u0, u1, u2], _ =>
    simp [c0] at h0
    simp [c1] at h1
    simp [c2] at h2
    obtain ⟨k, hk, _, wk⟩ := DataW.trod_int Try.underlying3 h0
    obtain ⟨m, hm, _, wm⟩ := DataW.trod_int Try.underlying2 h1
    obtain ⟨s, hs, _, _⟩ := DataW.trod_string Try.underlying9 h2
    simp at hk hm hs
    subst hk hm hs
    exact ⟨⟨k, m, s⟩, rfl, bounds_i64 wk, bounds_i64 wm⟩
theorem open_value {r : Reach} {b0 : Nat} {v : Value} {d : DataW H} {p : List MemPlace} (hv : Value.okWide Try.prog w r b0 26 v) (h : DataW.Trod enc Try.prog w base spare held 26 v d p) :
    ∃ x : Vl, VW x ∧ v = .agg #[.int .i64 x.k, .int .i64 x.n, .string x.s] := by
  obtain ⟨cs, rfl, hsz⟩ := okWide_struct Try.underlying26 hv
  obtain ⟨fuel, hf⟩ := h
  obtain ⟨x, hx, hw⟩ := trod_vl hf
  refine ⟨x, hw, ?_⟩
  simp [Value.cells, Vl.cells] at hx
  rw [show cs = cs.toList.toArray by simp, hx]
theorem open_values {a : Option Addr} {len cap : Nat} {d : DataW H} {p : List MemPlace} (h : DataW.Trod enc Try.prog w base (fun _ => true) held 22 (.slice a len cap) d p) :
    ∃ L, VArg w a len cap L ∧ ((d = .nil ∧ len = 0 ∧ cap = 0) ∨ ∃ el sp, d = .slice el sp ∧ el.length + sp.length = cap) := by
  obtain ⟨fuel, hf⟩ := h
  rcases open_slice Try.underlying22 hf with ⟨hcs, hd⟩ | ⟨x, l, c, m, n, D, Pl, hcs, _, hl, _, hm, hd, hx⟩
  · simp [Value.cells] at hcs
    obtain ⟨rfl, rfl, rfl⟩ := hcs
    exact ⟨[], ⟨VIn.nil _ _, by simp, Nat.le_refl _, fun _ => ⟨rfl, rfl⟩⟩, .inl ⟨(Prod.mk.inj hd).1, rfl, rfl⟩⟩
  · simp [Value.cells] at hcs
    obtain ⟨rfl, rfl, rfl⟩ := hcs
    have hlm : len ≤ m := by rw [hm]; simpa using hl
    have hC : Try.prog.cellsOf 26 = 3 := by kernel_rfl
    have each : ∀ i, i < m → ∃ v : Vl, VW v ∧ w.cell? (x.add (i * 3)) = some (.int .i64 v.k) ∧ w.cell? (x.add (i * 3 + 1)) = some (.int .i64 v.n) ∧ w.cell? (x.add (i * 3 + 2)) = some (.string v.s) := by
      intro i hi
      obtain ⟨cs', h1, h2⟩ := hx i hi
      rw [hC] at h1
      obtain ⟨_, hlen, hcell⟩ := World.cells?_some h1
      obtain ⟨v, rfl, hw⟩ := trod_vl h2
      have e0 := hcell 0 (by omega)
      have e1 := hcell 1 (by omega)
      have e2 := hcell 2 (by omega)
      rw [add_add] at e0 e1 e2
      exact ⟨v, hw, by simpa [Vl.cells] using e0, by simpa [Vl.cells] using e1, by simpa [Vl.cells] using e2⟩
    haveI : Inhabited Vl := ⟨v0⟩
    obtain ⟨V, hV⟩ := choose_lt each
    refine ⟨(List.range len).map V, ⟨⟨by simp, fun h0 => ?_⟩, fun v hv => ?_, hl, fun h => by cases h⟩, .inr ⟨_, _, (Prod.mk.inj hd).1, by simp at hm ⊢; omega⟩⟩
    · obtain ⟨b, off, spot⟩ := x
      have hspot : spot = none := by simpa [Addr.add] using World.cell?_spot (hV 0 (by omega)).2.1
      subst hspot
      have hc : ∀ j, j < len → w.cell? ⟨b, off + j * 3, none⟩ = some (.int .i64 (V j).k) ∧ w.cell? ⟨b, off + j * 3 + 1, none⟩ = some (.int .i64 (V j).n) ∧ w.cell? ⟨b, off + j * 3 + 2, none⟩ = some (.string (V j).s) := fun j hj => by
        obtain ⟨_, e0, e1, e2⟩ := hV j (by omega)
        rw [add_plain] at e0 e1 e2
        exact ⟨e0, by rw [Nat.add_assoc]; exact e1, by rw [Nat.add_assoc]; exact e2⟩
      refine ⟨b, off, rfl, ?_, fun j hj => ?_⟩
      · have := (hc 0 h0).1
        rcases Nat.lt_or_ge b w.heap.size with h' | h'
        · exact h'
        · simp [World.cell?, Array.getElem?_eq_none h'] at this
      · have hj' : j < len := by simpa using hj
        have e : ((List.range len).map V).getD j v0 = V j := by simp [List.getD, hj']
        rw [e]
        exact hc j hj'
    · simp only [List.mem_map, List.mem_range] at hv
      obtain ⟨j, hj, rfl⟩ := hv
      exact (hV j (by omega)).1
end
end Go.Proofs.Ytpnnjmckjipacaa
