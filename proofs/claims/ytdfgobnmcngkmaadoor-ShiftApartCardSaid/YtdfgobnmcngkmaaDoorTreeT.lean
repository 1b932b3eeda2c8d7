/-
  Seeds that come in; the trees of seeds, in plain words. Conditions: each theorem's own.
-/
import Derived.Test.YtdfgobnmcngkmaaDoorTreeM
import Derived.Test.YtdfgobnmcngkmaaDoorTreeQ
import Derived.Test.YtdfgobnmcngkmaaDoorTreeS
import Derived.Laws.BytesArg
import Derived.OpenShut
namespace Go.Proofs.YtdfgobnmcngkmaaDoor
open Go.RowKit
set_option linter.unusedVariables false
set_option linter.unusedSimpArgs false

/-- A slice of bytes that came in. -/
def SeedIn (W : World) (p : Option Addr) (len cap : Nat) : Prop := len ≤ cap ∧ ∀ j, j < len → ∃ g o, ∃ z : Nat, p = some ⟨g, o, none⟩ ∧ z < 256 ∧ W.cell? ⟨g, o + j, none⟩ = some (.int .u8 (z : Int))
theorem seedIn_nil (W : World) : SeedIn W none 0 0 := ⟨Nat.le_refl _, fun j h => by omega⟩
theorem seedIn_of {w : World} {x : Addr} {len cap : Nat} {zs : List Int} (hl : len ≤ cap) (hz : len ≤ zs.length) (hc : ∀ i, i < zs.length → w.cell? (x.add i) = some (.int .u8 (zs.getD i 0))) (hw : ∀ n ∈ zs, (Lit.int .u8 n).wf = true) : SeedIn w (some x) len cap := by
  refine ⟨hl, fun j hj => ?_⟩
  have hj' : j < zs.length := by omega
  obtain ⟨b, off, rfl, hcell⟩ := ints_at hc (by omega)
  have hb := bounds_u8 (hw zs[j] (List.getElem_mem hj'))
  refine ⟨b, off, zs[j].toNat, rfl, by omega, ?_⟩
  rw [hcell j hj', List.getD_eq_getElem?_getD, List.getElem?_eq_getElem hj', Option.getD_some, Int.toNat_of_nonneg hb.1]
theorem SeedIn.ext {W w : World} {p : Option Addr} {len cap : Nat} (h : SeedIn W p len cap) (hE : Ext W w) : SeedIn w p len cap := by
  refine ⟨h.1, fun j hj => ?_⟩
  obtain ⟨g, o, z, h1, h2, h3⟩ := h.2 j hj
  exact ⟨g, o, z, h1, h2, ext_cell (World.block_lt_of_cell? _ _ h3) h3 _ hE⟩
/-- Boxed, it is a seed. -/
theorem SeedIn.at_ {W w : World} {p : Option Addr} {len cap : Nat} {t : TypeId} {b : Nat} (h : SeedIn W p len cap) (hE : Ext W w) (hb : W.heap.size ≤ b) (hl : len ≤ 1000) (hg : w.heap[b]? = some (.cells #[.slice p len cap] t (0, 0))) : SeedAt b w := by
  refine ⟨p, len, cap, t, hg, h.1, hl, fun j hj => ?_⟩
  obtain ⟨g, o, z, h1, h2, h3⟩ := h.2 j hj
  exact ⟨g, o, z, h1, Nat.lt_of_lt_of_le (World.block_lt_of_cell? _ _ h3) hb, h2, ext_cell (World.block_lt_of_cell? _ _ h3) h3 _ hE⟩
theorem sizeL_le {l : List Tr} {M : Nat} (h : ∀ t ∈ l, sizeT t ≤ M) : sizeL l ≤ l.length * M := by
  induction l with
  | nil => simp [sizeL]
  | cons t l ih =>
    have h1 := h t (List.mem_cons_self ..)
    have h2 := ih (fun t ht => h t (List.mem_cons_of_mem _ ht))
    simp only [sizeL, List.length_cons, Nat.succ_mul]
    omega
theorem ft_size {d : Nat} {t : Tr} (h : FT d t) : sizeT t ≤ 10 ^ (d + 1) := by
  have hp : ∀ d : Nat, 1 ≤ 10 ^ d := fun d => Nat.pos_of_ne_zero (by simp)
  induction h with
  | lit d => simp only [sizeT, sizeL]; exact hp _
  | one d => simp only [sizeT, sizeL]; exact hp _
  | area d => simp only [sizeT, sizeL]; exact hp _
  | un d k t hk ht ih =>
    simp only [sizeT, sizeL]
    have := hp (d + 1)
    rw [Nat.pow_succ]
    omega
  | bin d op t t' hop ht ht' ih ih' =>
    simp only [sizeT, sizeL]
    have := hp (d + 1)
    rw [Nat.pow_succ]
    omega
  | call d f ts hf hn ht ih =>
    simp only [sizeT]
    have h1 := sizeL_le ih
    have h2 : ts.length * 10 ^ (d + 1) ≤ 9 * 10 ^ (d + 1) := Nat.mul_le_mul_right _ hn
    have := hp (d + 1)
    rw [Nat.pow_succ]
    omega
theorem rightL_all {n : Nat} {l : List Tr} (h : ∀ t ∈ l, rightT n t = true) : rightL n l = true := by
  induction l with
  | nil => simp [rightL]
  | cons t l ih => simp only [rightL, h t (List.mem_cons_self ..), ih (fun t ht => h t (List.mem_cons_of_mem _ ht)), Bool.and_self]
theorem ins_small {r : Rf} (h : r.small) : insV r.s r.c r.r = true := by
  obtain ⟨h1, h2, h3⟩ := h
  simp only [insV, Bool.and_eq_true, decide_eq_true_eq]
  omega
theorem ins_smallA {a b : Rf} (h : SmallA a b) : insV b.s b.c b.r = true := by
  obtain ⟨⟨h1, h2, h3⟩, ha, hb, h4, h5, -⟩ := h
  simp only [insV, Bool.and_eq_true, decide_eq_true_eq]
  omega
theorem ft_right {d : Nat} {t : Tr} (h : FT d t) : ∀ n, d < n → rightT n t = true := by
  induction h with
  | lit d k n s h hn hs =>
    intro m hm
    obtain ⟨m, rfl⟩ : ∃ k, m = k + 1 := ⟨m - 1, by omega⟩
    simp [rightT, rightL, kidsV, litS, h]
  | one d r h =>
    intro m hm
    obtain ⟨m, rfl⟩ : ∃ k, m = k + 1 := ⟨m - 1, by omega⟩
    simp [rightT, rightL, kidsV, oneS, ins_small h]
  | area d a b h =>
    intro m hm
    obtain ⟨m, rfl⟩ : ∃ k, m = k + 1 := ⟨m - 1, by omega⟩
    have h1 := ins_small h.1
    have h2 := ins_smallA h
    have h3 := h.2.1
    have h4 := h.2.2.1
    rw [h3] at h1
    rw [h4] at h2
    simp [rightT, rightL, kidsV, areaS, h1, h2, h3, h4]
  | un d k t hk ht ih =>
    intro m hm
    obtain ⟨m, rfl⟩ : ∃ k, m = k + 1 := ⟨m - 1, by omega⟩
    rcases hk with rfl | rfl <;> simp [rightT, rightL, kidsV, parS, ih m (by omega)]
  | bin d op t t' hop ht ht' ih ih' =>
    intro m hm
    obtain ⟨m, rfl⟩ : ∃ k, m = k + 1 := ⟨m - 1, by omega⟩
    simp [rightT, rightL, kidsV, parS, ih m (by omega), ih' m (by omega), hop]
  | call d f ts hf hn ht ih =>
    intro m hm
    obtain ⟨m, rfl⟩ : ∃ k, m = k + 1 := ⟨m - 1, by omega⟩
    simp [rightT, kidsV, parS, hf, rightL_all (fun t ht' => ih t ht' m (by omega))]
end Go.Proofs.YtdfgobnmcngkmaaDoor
