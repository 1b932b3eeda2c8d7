/-
  What the laws of layer 11 say of lists, with no program in sight. Conditions: each theorem's own.
-/
import Derived.Test.YtpnnjmckjipacaaL11
namespace Go.Proofs.Ytpnnjmckjipacaa
open Go.RowKit Num
set_option linter.unusedVariables false

theorem _root_.Go.RowKit.Below.th {W a b : World} (h : Below W.heap.size W a) (k : Below a.heap.size a b) : Below W.heap.size W b := h.trans (k.mono h.size)
theorem _root_.Go.RowKit.Below.al {W a : World} (h : Below W.heap.size W a) (o : Obj) : Below W.heap.size W (a.alloc o) := h.alloc h.size o
/-- A variable that holds a value: its block. -/
theorem start_x (w : World) (k n : Int) (s : ByteArray) : ∃ W, w.alloc (.cells #[.int .i64 k, .int .i64 n, .string s] 26) = W ∧ Below w.heap.size w W ∧ XB W w.heap.size ⟨k, n, s⟩ ∧ W.heap.size = w.heap.size + 1 :=
  ⟨_, rfl, below_alloc _ _, XB.new w ⟨k, n, s⟩, by simp⟩
theorem light_mants {w : World} {a : Option Addr} {len cap : Nat} {L : List Vl} (h : VArg w a len cap L) (hl : Light len L) : Mants (nums L) := by
  intro z hz
  unfold nums at hz
  simp only [List.mem_map, List.mem_filter] at hz
  obtain ⟨v, ⟨hv, hk⟩, rfl⟩ := hz
  obtain ⟨j, hj, rfl⟩ := List.mem_iff_getElem.1 hv
  have h1 := hl.2 j (by rw [← h.1.1]; exact hj)
  have h2 := h.2.1 _ hv
  have e : L.getD j v0 = L[j] := by rw [List.getD_eq_getElem?_getD, List.getElem?_eq_getElem hj]; rfl
  rw [e] at h1
  unfold vr at h1
  have hk' : L[j].k = 1 := by simpa using hk
  simp [hk'] at h1
  unfold VW at h2
  unfold Mant
  omega
theorem nums_app (L M : List Vl) : nums (L ++ M) = nums L ++ nums M := by simp [nums]
theorem mants_app {xs ys : List Int} (h : Mants xs) (k : Mants ys) : Mants (xs ++ ys) := fun z hz => (List.mem_append.1 hz).elim (h z) (k z)
theorem cnt_app (p : Vl → Bool) (L M : List Vl) : cnt p (L ++ M) = cnt p L + cnt p M := by simp [cnt]
theorem cnt_num (L : List Vl) : cnt (isKind 1 true) L = (nums L).length := by
  unfold cnt nums isKind
  rw [List.length_map]
  congr 2
  funext v
  cases v.k == 1 <;> rfl
theorem cnt_not (L : List Vl) : cnt (isKind 0 true) L + cnt (isKind 0 false) L = L.length := by
  unfold cnt isKind
  induction L with
  | nil => rfl
  | cons v L ih =>
    rw [List.filter_cons, List.filter_cons, List.length_cons]
    cases v.k == 0
    · show (List.filter _ L).length + ((List.filter _ L).length + 1) = _; omega
    · show ((List.filter _ L).length + 1) + (List.filter _ L).length = _; omega
theorem addO_none : ∀ zs : List Int, zs.foldl addO none = none := fun zs => by induction zs with
    | nil => rfl
    | cons z zs ih => exact ih
theorem sumO_sum : ∀ (zs : List Int) (o s : Int), zs.foldl addO (some o) = some s → s = o + zs.sum := by
  intro zs
  induction zs with
  | nil => intro o s h; cases h; simp
  | cons z zs ih =>
    intro o s h
    rw [List.foldl_cons, show addO (some o) z = if fitI (o + z) then some (o + z) else none from rfl] at h
    split at h
    · have := ih _ _ h
      rw [List.sum_cons]; omega
    · rw [addO_none] at h; cases h
theorem sumO_app {xs ys : List Int} {p q s : Int} (hp : sumO xs = some p) (hq : sumO ys = some q) (hs : sumO (xs ++ ys) = some s) : s = p + q := by
  have h1 := sumO_sum _ _ _ hp
  have h2 := sumO_sum _ _ _ hq
  have h3 := sumO_sum _ _ _ hs
  rw [List.sum_append] at h3
  omega
def ext2 (g : Bool) (a b : Int) : Int := if g then max a b else min a b
theorem better_ext (g : Bool) (b n : Int) : better g b n = ext2 g b n := by
  unfold better ext2
  cases g
  · by_cases h : b < n
    · simp [h]; omega
    · by_cases h' : n = b
      · simp [h']
      · simp [h, h']; omega
  · by_cases h : b < n
    · have h' : n ≠ b := by omega
      simp [h, h']; omega
    · simp [h]; omega
theorem ext_fold (g : Bool) : ∀ (l : List Int) (a b : Int), l.foldl (better g) (ext2 g a b) = ext2 g a (l.foldl (better g) b) := by
  intro l
  induction l with
  | nil => intro a b; rfl
  | cons z l ih =>
    intro a b
    rw [List.foldl_cons, List.foldl_cons, better_ext, better_ext, show ext2 g (ext2 g a b) z = ext2 g a (ext2 g b z) by unfold ext2; cases g <;> simp <;> omega, ih]
theorem ext_self (g : Bool) (a : Int) : ext2 g a a = a := by unfold ext2; cases g <;> simp
theorem ext_app (g : Bool) {xs ys : List Int} (hx : xs.length ≠ 0) (hy : ys.length ≠ 0) : extV g (xs ++ ys) = ext2 g (extV g xs) (extV g ys) := by
  cases xs with
  | nil => exact absurd rfl hx
  | cons x xr =>
    cases ys with
    | nil => exact absurd rfl hy
    | cons y yr =>
      unfold extV
      rw [List.foldl_append]
      show (y :: yr).foldl (better g) ((x :: xr).foldl (better g) x) = _
      have hA : ∀ A, (y :: yr).foldl (better g) A = ext2 g A ((y :: yr).foldl (better g) y) := fun A => by
        rw [List.foldl_cons, List.foldl_cons, better_ext, better_ext, ext_self, ext_fold]
      rw [hA]
      rfl
/-- What an extreme of numbers is: one of them. -/
theorem ext_mant (g : Bool) {zs : List Int} (h : Mants zs) : Mant (extV g zs) := by
  have aux : ∀ (l : List Int) (a : Int), Mant a → Mants l → Mant (l.foldl (better g) a) := by
    intro l
    induction l with
    | nil => intro a ha _; exact ha
    | cons z l ih =>
      intro a ha hl
      refine ih _ ?_ fun y hy => hl y (by simp [hy])
      have hz := hl z (by simp)
      unfold better
      split
      · exact hz
      · exact ha
  unfold extV
  refine aux _ _ ?_ h
  cases zs with
  | nil => unfold Mant; simp
  | cons z l => exact h z (by simp)

theorem veq_no {v x : Vl} (h : veq v x = false) : (v.k == x.k) = false ∨ ((v.k == x.k) = true ∧ (v.n == x.n) = false) ∨ ((v.k == x.k) = true ∧ (v.n == x.n) = true ∧ (v.s.toList == x.s.toList) = false) := by
  unfold veq at h
  rw [str_eq]
  by_cases h1 : v.k = x.k
  · by_cases h2 : v.n = x.n
    · exact .inr (.inr ⟨by simpa using h1, by simpa using h2, by simpa [h1, h2] using h⟩)
    · exact .inr (.inl ⟨by simpa using h1, by simpa using h2⟩)
  · exact .inl (by simpa using h1)
theorem match_no (x : Vl) (a : Option Addr) (len cap : Nat) (L : List Vl) (w : World) (h : VIn w a len L) (hl : len ≤ 1000000) (hn : ∀ j, j < len → veq (L.getD j v0) x = false) :
    Calls Try.prog 14 #[.agg #[.int .i64 x.k, .int .i64 x.n, .string x.s], .slice a len cap] w (RetV 4 6 { data := #[] } w) := by
  refine (match_any x a len cap L w h hl).mono ?_
  rintro e w' ⟨h1 | h1, hb⟩
  · obtain ⟨i, hi, hv, -, -⟩ := h1
    rw [hn i (by rw [← h.1]; exact hi)] at hv; cases hv
  · exact ⟨h1.2, hb⟩
theorem match_yes (x : Vl) (a : Option Addr) (len cap : Nat) (L : List Vl) (w : World) (h : VIn w a len L) (hl : len ≤ 1000000) (i : Nat) (hi : i < len) (hv : veq (L.getD i v0) x = true) (hf : ∀ j, j < i → veq (L.getD j v0) x = false) :
    Calls Try.prog 14 #[.agg #[.int .i64 x.k, .int .i64 x.n, .string x.s], .slice a len cap] w (RetV 1 (((i : Int) + 1) * 1000000) { data := #[] } w) := by
  refine (match_any x a len cap L w h hl).mono ?_
  rintro e w' ⟨h1 | h1, hb⟩
  · obtain ⟨j, hj, hvj, hfj, he⟩ := h1
    obtain rfl : j = i := by
      rcases Nat.lt_trichotomy j i with hl | hl | hl
      · rw [hf j hl] at hvj; cases hvj
      · exact hl
      · rw [hfj i hl] at hv; cases hv
    exact ⟨he, hb⟩
  · rw [h1.1 i (by rw [h.1]; exact hi)] at hv; cases hv
/-- Where the first alike to one stands, if any. -/
theorem first_at (p : Nat → Bool) (n : Nat) : (∀ j, j < n → p j = false) ∨ ∃ i, i < n ∧ p i = true ∧ ∀ j, j < i → p j = false := by
  induction n with
  | zero => exact .inl fun j hj => by omega
  | succ n ih =>
    rcases ih with h | ⟨i, hi, h⟩
    · cases hp : p n
      · exact .inl fun j hj => by rcases Nat.lt_or_ge j n with hj' | hj'; exact h j hj'; obtain rfl : j = n := (by omega); exact hp
      · exact .inr ⟨n, by omega, hp, h⟩
    · exact .inr ⟨i, by omega, h⟩
theorem cnt_zero (p : Vl → Bool) (L : List Vl) (h : ∀ j, j < L.length → p (L.getD j v0) = false) : cnt p L = 0 := by
  unfold cnt
  rw [List.length_eq_zero_iff, List.filter_eq_nil_iff]
  intro v hv
  obtain ⟨j, hj, rfl⟩ := List.mem_iff_getElem.1 hv
  have := h j hj
  rw [List.getD_eq_getElem?_getD, List.getElem?_eq_getElem hj] at this
  simpa using this
/-- The first values of a slice. -/
theorem VIn.first {w : World} {a : Option Addr} {len : Nat} {L : List Vl} (h : VIn w a len L) {k : Nat} (hk : k ≤ len) : VIn w a k (L.take k) := by
  have h1 := h.1
  refine ⟨by rw [List.length_take]; omega, fun h0 => ?_⟩
  obtain ⟨b, off, rfl, hB, hc⟩ := h.2 (by omega)
  refine ⟨b, off, rfl, hB, fun j hj => ?_⟩
  have hj' : j < k := by rw [List.length_take] at hj; omega
  have := hc j (by omega)
  rw [show (L.take k).getD j v0 = L.getD j v0 by simp [List.getD, hj']]
  exact this
theorem first_get (L : List Vl) {j k : Nat} (h : j < k) : (L.take k).getD j v0 = L.getD j v0 := by simp [List.getD, h]
/-- What a literal of one value, and a list behind it, is to the walk. -/
theorem lit_row (W : World) (x : Vl) : (W.alloc (.cells #[.int .i64 x.k, .int .i64 x.n, .string x.s] 26)).ownsRow W.heap.size 26 3 (.slice (some ⟨W.heap.size, 0, none⟩) 1 1) [x].length (vcells [x]) :=
  World.ownsRow_lit W #[.int .i64 x.k, .int .i64 x.n, .string x.s] 1 (Nat.le_refl _) (by decide) rfl

/-- What is held of the world where two variables are read next to calls. -/
theorem held2 {W w w' : World} {g1 g2 : Nat} {p0 p1 p2 q0 q1 q2 : Value} (hg1 : g1 < W.heap.size) (hg2 : g2 < W.heap.size)
    (h : Below W.heap.size W w ∧ w.cell? ⟨g1, 0, none⟩ = some p0 ∧ w.cell? ⟨g1, 1, none⟩ = some p1 ∧ w.cell? ⟨g1, 2, none⟩ = some p2 ∧ w.cell? ⟨g2, 0, none⟩ = some q0 ∧ w.cell? ⟨g2, 1, none⟩ = some q1 ∧ w.cell? ⟨g2, 2, none⟩ = some q2)
    (hb : Below w.heap.size w w') :
    Below W.heap.size W w' ∧ w'.cell? ⟨g1, 0, none⟩ = some p0 ∧ w'.cell? ⟨g1, 1, none⟩ = some p1 ∧ w'.cell? ⟨g1, 2, none⟩ = some p2 ∧ w'.cell? ⟨g2, 0, none⟩ = some q0 ∧ w'.cell? ⟨g2, 1, none⟩ = some q1 ∧ w'.cell? ⟨g2, 2, none⟩ = some q2 := by
  obtain ⟨h0, a0, a1, a2, b0, b1, b2⟩ := h
  have l1 : g1 < w.heap.size := Nat.lt_of_lt_of_le hg1 h0.size
  have l2 : g2 < w.heap.size := Nat.lt_of_lt_of_le hg2 h0.size
  obtain ⟨hc, -⟩ := bcell hb
  exact ⟨h0.th hb, by rw [hc _ _ l1, a0], by rw [hc _ _ l1, a1], by rw [hc _ _ l1, a2], by rw [hc _ _ l2, b0], by rw [hc _ _ l2, b1], by rw [hc _ _ l2, b2]⟩
theorem held2_start {W : World} {g1 g2 : Nat} {x y : Vl} (hx : XB W g1 x) (hy : XB W g2 y) :
    Below W.heap.size W W.drew ∧ W.drew.cell? ⟨g1, 0, none⟩ = some (.int .i64 x.k) ∧ W.drew.cell? ⟨g1, 1, none⟩ = some (.int .i64 x.n) ∧ W.drew.cell? ⟨g1, 2, none⟩ = some (.string x.s) ∧ W.drew.cell? ⟨g2, 0, none⟩ = some (.int .i64 y.k) ∧ W.drew.cell? ⟨g2, 1, none⟩ = some (.int .i64 y.n) ∧ W.drew.cell? ⟨g2, 2, none⟩ = some (.string y.s) :=
  ⟨(Below.refl _ _).drew, hx.2.1, hx.2.2.1, hx.2.2.2, hy.2.1, hy.2.2.1, hy.2.2.2⟩
/-- Likewise where the first is an element of a slice. -/
theorem held2v {W w w' : World} {b o g : Nat} {p0 p1 p2 q0 q1 q2 : Value} (hg1 : b < W.heap.size) (hg2 : g < W.heap.size)
    (h : Below W.heap.size W w ∧ w.cell? ⟨b, o, none⟩ = some p0 ∧ w.cell? ⟨b, o + 1, none⟩ = some p1 ∧ w.cell? ⟨b, o + 2, none⟩ = some p2 ∧ w.cell? ⟨g, 0, none⟩ = some q0 ∧ w.cell? ⟨g, 1, none⟩ = some q1 ∧ w.cell? ⟨g, 2, none⟩ = some q2)
    (hb : Below w.heap.size w w') :
    Below W.heap.size W w' ∧ w'.cell? ⟨b, o, none⟩ = some p0 ∧ w'.cell? ⟨b, o + 1, none⟩ = some p1 ∧ w'.cell? ⟨b, o + 2, none⟩ = some p2 ∧ w'.cell? ⟨g, 0, none⟩ = some q0 ∧ w'.cell? ⟨g, 1, none⟩ = some q1 ∧ w'.cell? ⟨g, 2, none⟩ = some q2 := by
  obtain ⟨h0, a0, a1, a2, b0, b1, b2⟩ := h
  have l1 : b < w.heap.size := Nat.lt_of_lt_of_le hg1 h0.size
  have l2 : g < w.heap.size := Nat.lt_of_lt_of_le hg2 h0.size
  obtain ⟨hc, -⟩ := bcell hb
  exact ⟨h0.th hb, by rw [hc _ _ l1, a0], by rw [hc _ _ l1, a1], by rw [hc _ _ l1, a2], by rw [hc _ _ l2, b0], by rw [hc _ _ l2, b1], by rw [hc _ _ l2, b2]⟩
theorem held2v_start {W : World} {b o g : Nat} {p0 p1 p2 : Value} {y : Vl} (h0 : W.cell? ⟨b, o, none⟩ = some p0) (h1 : W.cell? ⟨b, o + 1, none⟩ = some p1) (h2 : W.cell? ⟨b, o + 2, none⟩ = some p2) (hy : XB W g y) :
    Below W.heap.size W W.drew ∧ W.drew.cell? ⟨b, o, none⟩ = some p0 ∧ W.drew.cell? ⟨b, o + 1, none⟩ = some p1 ∧ W.drew.cell? ⟨b, o + 2, none⟩ = some p2 ∧ W.drew.cell? ⟨g, 0, none⟩ = some (.int .i64 y.k) ∧ W.drew.cell? ⟨g, 1, none⟩ = some (.int .i64 y.n) ∧ W.drew.cell? ⟨g, 2, none⟩ = some (.string y.s) :=
  ⟨(Below.refl _ _).drew, h0, h1, h2, hy.2.1, hy.2.2.1, hy.2.2.2⟩
end Go.Proofs.Ytpnnjmckjipacaa
