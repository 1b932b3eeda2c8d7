/-
  Slices of values, and of integers, that a call reads or gathers. Conditions: each theorem's own.
-/
import Derived.Test.YtiddefbjnhhiiaaVal
import Derived.OwnWalk
import Derived.Below
namespace Go.Proofs.Ytiddefbjnhhiiaa
open Go.RowKit
set_option linter.unusedVariables false

/-- A value: its kind, its number, its text. -/
structure Vl where
  k : Int
  n : Int
  s : ByteArray
def v0 : Vl := ⟨0, 0, ⟨#[]⟩⟩
/-- Its three cells. -/
def Vl.cells (v : Vl) : List Value := [.int .i64 v.k, .int .i64 v.n, .string v.s]
def vcells (L : List Vl) : List Value := (L.map Vl.cells).flatten

def ValsAt (w : World) (b off : Nat) (L : List Vl) : Prop := ∀ j, j < L.length →
  w.cell? ⟨b, off + j * 3, none⟩ = some (.int .i64 (L.getD j v0).k) ∧ w.cell? ⟨b, off + j * 3 + 1, none⟩ = some (.int .i64 (L.getD j v0).n) ∧ w.cell? ⟨b, off + j * 3 + 2, none⟩ = some (.string (L.getD j v0).s)
/-- The slice a, of so many values, holds L. -/
def VIn (w : World) (a : Option Addr) (len : Nat) (L : List Vl) : Prop := L.length = len ∧ (0 < len → ∃ b off, a = some ⟨b, off, none⟩ ∧ b < w.heap.size ∧ ValsAt w b off L)
theorem VIn.below {w w' : World} {a : Option Addr} {len : Nat} {L : List Vl} (h : VIn w a len L) (hb : Below w.heap.size w w') : VIn w' a len L := by
  refine ⟨h.1, fun h0 => ?_⟩
  obtain ⟨b, off, rfl, hB, hc⟩ := h.2 h0
  refine ⟨b, off, rfl, Nat.lt_of_lt_of_le hB hb.size, fun j hj => ?_⟩
  rw [hb.cell (p := ⟨b, off + j * 3, none⟩) hB, hb.cell (p := ⟨b, off + j * 3 + 1, none⟩) hB, hb.cell (p := ⟨b, off + j * 3 + 2, none⟩) hB]
  exact hc j hj
theorem VIn.alloc {w : World} {a : Option Addr} {len : Nat} {L : List Vl} (h : VIn w a len L) (o : Obj) : VIn (w.alloc o) a len L := h.below ((Below.refl _ _).alloc (Nat.le_refl _) o)
theorem VIn.nil (w : World) (a : Option Addr) : VIn w a 0 [] := ⟨rfl, fun h => by omega⟩

/-- Likewise integers. -/
def IIn (w : World) (a : Option Addr) (len : Nat) (zs : List Int) : Prop := zs.length = len ∧ (0 < len → ∃ b off, a = some ⟨b, off, none⟩ ∧ b < w.heap.size ∧ ∀ j, j < len → w.cell? ⟨b, off + j, none⟩ = some (.int .i64 (zs.getD j 0)))
theorem IIn.below {w w' : World} {a : Option Addr} {len : Nat} {zs : List Int} (h : IIn w a len zs) (hb : Below w.heap.size w w') : IIn w' a len zs := by
  refine ⟨h.1, fun h0 => ?_⟩
  obtain ⟨b, off, rfl, hB, hc⟩ := h.2 h0
  exact ⟨b, off, rfl, Nat.lt_of_lt_of_le hB hb.size, fun j hj => by rw [hb.cell (p := ⟨b, off + j, none⟩) hB]; exact hc j hj⟩

def iv (zs : List Int) : List Value := zs.map (Value.int .i64)
/-- What a call gathered, as it is read. -/
theorem own_ints {w : World} {B : Nat} {v : Value} {zs : List Int} (h : w.ownsRow B 2 1 v zs.length (iv zs)) : ∃ a cap, v = .slice a zs.length cap ∧ IIn w a zs.length zs ∧ zs.length ≤ cap := by
  rcases h.2 with ⟨rfl, h0⟩ | ⟨g, cap, cur, rfl, hB, hg, hc, _⟩
  · rw [h0]; exact ⟨none, 0, rfl, ⟨h0, fun h => by omega⟩, by omega⟩
  · refine ⟨_, cap, rfl, ⟨rfl, fun _ => ⟨g, 0, rfl, (Array.getElem?_eq_some_iff.1 hg).1, fun j hj => ?_⟩⟩, hc⟩
    rw [Nat.zero_add, h.cellAt j (by omega), iv, List.getElem?_map, List.getD_eq_getElem?_getD, List.getElem?_eq_getElem hj]
    rfl
theorem vcells_len (L : List Vl) : (vcells L).length = L.length * 3 := by
  induction L with
  | nil => rfl
  | cons v L ih => simp only [vcells, List.map_cons, List.flatten_cons, List.length_append, List.length_cons] at ih ⊢; rw [ih]; simp [Vl.cells]; omega
theorem vcells_app (L M : List Vl) : vcells (L ++ M) = vcells L ++ vcells M := by simp [vcells]
theorem vcells_at (L : List Vl) : ∀ j, j < L.length → (vcells L)[j * 3]? = some (.int .i64 (L.getD j v0).k) ∧ (vcells L)[j * 3 + 1]? = some (.int .i64 (L.getD j v0).n) ∧ (vcells L)[j * 3 + 2]? = some (.string (L.getD j v0).s) := by
  induction L with
  | nil => intro j h; simp at h
  | cons v L ih =>
    intro j h
    have e : vcells (v :: L) = [Value.int .i64 v.k, .int .i64 v.n, .string v.s] ++ vcells L := rfl
    rw [e]
    cases j with
    | zero => exact ⟨rfl, rfl, rfl⟩
    | succ j =>
      have hj : j < L.length := by simpa using h
      obtain ⟨h1, h2, h3⟩ := ih j hj
      have a1 : (j + 1) * 3 = j * 3 + 3 := by omega
      have g : (v :: L).getD (j + 1) v0 = L.getD j v0 := by simp [List.getD]
      rw [g, a1]
      refine ⟨?_, ?_, ?_⟩
      · rw [List.getElem?_append_right (by simp)]; simpa using h1
      · rw [List.getElem?_append_right (by simp)]; simpa using h2
      · rw [List.getElem?_append_right (by simp)]; simpa using h3
theorem own_vals {w : World} {B : Nat} {v : Value} {L : List Vl} (h : w.ownsRow B 25 3 v L.length (vcells L)) : ∃ a cap, v = .slice a L.length cap ∧ VIn w a L.length L ∧ L.length ≤ cap := by
  rcases h.2 with ⟨rfl, h0⟩ | ⟨g, cap, cur, rfl, hB, hg, hc, _⟩
  · rw [h0]; exact ⟨none, 0, rfl, ⟨h0, fun h => by omega⟩, by omega⟩
  · refine ⟨_, cap, rfl, ⟨rfl, fun _ => ⟨g, 0, rfl, (Array.getElem?_eq_some_iff.1 hg).1, fun j hj => ?_⟩⟩, hc⟩
    obtain ⟨h1, h2, h3⟩ := vcells_at L j hj
    rw [Nat.zero_add, h.cellAt (j * 3) (by omega), h.cellAt (j * 3 + 1) (by omega), h.cellAt (j * 3 + 2) (by omega)]
    exact ⟨h1, h2, h3⟩

theorem i64_info : (Try.prog.info? 2).map (fun i => (i.zero, i.size, i.bytes)) = some (some (.int .i64 0), 1, 8) := by kernel_rfl
theorem val_info : (Try.prog.info? 25).map (fun i => (i.zero, i.size, i.bytes)) = some (some (.agg #[.int .i64 0, .int .i64 0, .string { data := #[] }]), 3, 32) := by kernel_rfl

/-- append(out, x) of an int64. -/
theorem app_int {W w : World} {ops : Array Oper} {rest : List Oper} {o : Oper} {a : Act} {Q : Exit → Act → World → Prop} (hgd : o.guard = none) (s x : Operand)
    (ho : o.op = .call { callee := .builtin .append, args := #[s, x], argTypes := #[41, 41] }) (v : Value) (l : List Int) (hs : a.eval s = v)
    (hown : w.ownsRow W.heap.size 2 1 v l.length (iv l)) (hb : Below W.heap.size W w) (X : Int)
    {ad : Addr} (hx : a.eval x = .slice (some ad) 1 1) (had : ad = ⟨w.heap.size, 0, none⟩) (hlen : l.length < 10000000000000)
    (h : ∀ v' w', w'.ownsRow W.heap.size 2 1 v' (l ++ [X]).length (iv (l ++ [X])) → Below W.heap.size W w' → wpList Try.prog ops Q rest (a.put o.dst v') w') :
    wpList Try.prog ops Q (o :: rest) a (w.alloc (.cells #[.int .i64 X] 2)) := by
  obtain ⟨i0, hi, hz0, hz1, hz2⟩ := info_parts i64_info
  subst had
  refine wpList_append_own _ hgd s x 41 ho W.heap.size 2 i0 (.int .i64 0) 1 8 Try.underlying41 hi hz0 hz1 hz2 rfl (by decide) v _ _ hs (hown.alloc _) ⟨w.heap.size, 0, none⟩ 1 1 [.int .i64 X] hx rfl ?c1 ?c2 ?c3 ?c4 ?c5 ?_
  case c1 =>
    intro j u hj
    match j, hj with
    | 0, hj => simp at hj; subst hj; simp [Addr.add]
  case c2 => intro u hu; simp at hu; subst hu; rfl
  case c3 => unfold maxLen; omega
  case c4 => omega
  case c5 => have := hb.size; simp; omega
  intro v' w' h1 h2 h3
  refine h v' w' ?_ ?_
  · have e : iv l ++ [Value.int .i64 X] = iv (l ++ [X]) := by simp [iv]
    rw [e] at h1
    simpa using h1
  · exact (hb.alloc hb.size _).grown h2 (by have := hb.size; simp; omega) fun k hk => (hown.lt k hk).1
theorem _root_.Go.World.ownsRow.below {w w' : World} {base : Nat} {e : TypeId} {size : Nat} {v : Value} {n : Nat} {xs : List Value} (h : w.ownsRow base e size v n xs) (hb : Below w.heap.size w w') : w'.ownsRow base e size v n xs :=
  h.kept (row := none) ⟨hb.os, hb.tape, hb.output, hb.size, fun k hk _ => hb.block k hk⟩ (by cases v.ownBlock <;> simp)

/-! ### Blocks that a call lays for what it hands back, and for what was handed in -/
/-- Block g is a result that nobody has written yet. -/
def RB (W : World) (g : Nat) : Prop := g < W.heap.size ∧ W.cell? ⟨g, 0, none⟩ = some (.int .i64 0) ∧ W.cell? ⟨g, 1, none⟩ = some (.int .i64 0) ∧ W.cell? ⟨g, 2, none⟩ = some (.string { data := #[] }) ∧
  W.frozen? ⟨g, 0, none⟩ = false ∧ W.frozen? ⟨g, 1, none⟩ = false ∧ W.frozen? ⟨g, 2, none⟩ = false
/-- Block g holds the value x. -/
def XB (W : World) (g : Nat) (x : Vl) : Prop := g < W.heap.size ∧ W.cell? ⟨g, 0, none⟩ = some (.int .i64 x.k) ∧ W.cell? ⟨g, 1, none⟩ = some (.int .i64 x.n) ∧ W.cell? ⟨g, 2, none⟩ = some (.string x.s)
theorem RB.step {W W' : World} {g : Nat} (h : RB W g) (hb : Below W.heap.size W W') : RB W' g := by
  obtain ⟨h0, h1, h2, h3, h4, h5, h6⟩ := h
  obtain ⟨hc, hf⟩ := bcell hb
  exact ⟨Nat.lt_of_lt_of_le h0 hb.size, by rw [hc _ _ h0, h1], by rw [hc _ _ h0, h2], by rw [hc _ _ h0, h3], by rw [hf _ _ h0, h4], by rw [hf _ _ h0, h5], by rw [hf _ _ h0, h6]⟩
theorem XB.step {W W' : World} {g : Nat} {x : Vl} (h : XB W g x) (hb : Below W.heap.size W W') : XB W' g x := by
  obtain ⟨h0, h1, h2, h3⟩ := h
  obtain ⟨hc, hf⟩ := bcell hb
  exact ⟨Nat.lt_of_lt_of_le h0 hb.size, by rw [hc _ _ h0, h1], by rw [hc _ _ h0, h2], by rw [hc _ _ h0, h3]⟩
theorem RB.new (w : World) : RB (w.alloc (.cells #[.int .i64 0, .int .i64 0, .string { data := #[] }] 25)) w.heap.size := by
  unfold RB; simp
theorem XB.new (w : World) (x : Vl) : XB (w.alloc (.cells #[.int .i64 x.k, .int .i64 x.n, .string x.s] 25)) w.heap.size x := by
  unfold XB; simp
theorem below_alloc (w : World) (o : Obj) : Below w.heap.size w (w.alloc o) := (Below.refl _ _).alloc (Nat.le_refl _) o
/-- A result's block, wherever it was laid, filled behind a call. -/
theorem below_fillg {W w1 : World} {g : Nat} (hg : W.heap.size ≤ g) (hb : Below W.heap.size W w1) (a b c : Value) :
    Below W.heap.size W (((w1.setCell ⟨g, 0, none⟩ a).setCell ⟨g, 1, none⟩ b).setCell ⟨g, 2, none⟩ c) :=
  ((hb.setCell (p := ⟨g, 0, none⟩) hg _).setCell (p := ⟨g, 1, none⟩) hg _).setCell (p := ⟨g, 2, none⟩) hg _
/-- The start of a function that hands back a value: its result's block. -/
theorem start1 (w : World) : ∃ W, w.alloc (.cells #[.int .i64 0, .int .i64 0, .string { data := #[] }] 25) = W ∧ Below w.heap.size w W ∧ RB W w.heap.size :=
  ⟨_, rfl, below_alloc _ _, RB.new w⟩
/-- The start of one that takes a value, too. -/
theorem start2 (w : World) (x : Vl) : ∃ W, (w.alloc (.cells #[.int .i64 x.k, .int .i64 x.n, .string x.s] 25)).alloc (.cells #[.int .i64 0, .int .i64 0, .string { data := #[] }] 25) = W ∧ Below w.heap.size w W ∧ XB W w.heap.size x ∧ RB W (w.heap.size + 1) := by
  refine ⟨_, rfl, (below_alloc _ _).trans ((below_alloc _ _).mono (by simp)), (XB.new w x).step (below_alloc _ _), ?_⟩
  have := RB.new (w.alloc (.cells #[.int .i64 x.k, .int .i64 x.n, .string x.s] 25))
  rw [World.size_alloc] at this
  exact this
end Go.Proofs.Ytiddefbjnhhiiaa
