/-
  Seeds of formulas: what they are made of; law 05's ref: walk. Conditions: each theorem's own.
-/
import Derived.Test.YtffogjhjgmohiaaDoorTreeI
import Derived.Test.YtffogjhjgmohiaaDoorMask
namespace Go.Proofs.YtffogjhjgmohiaaDoor
open Go.RowKit
set_option linter.unusedVariables false
set_option linter.unusedSimpArgs false

/-- A cell near the first one. -/
def Rf.small (r : Rf) : Prop := (0 ≤ r.s ∧ r.s ≤ 1) ∧ (0 ≤ r.c ∧ r.c ≤ 3) ∧ 0 ≤ r.r ∧ r.r ≤ 3
theorem small_mk {s : Int} {c r : Nat} {x y : Bool} (hs : 0 ≤ s ∧ s ≤ 1) (hc : c < 4) (hr : r < 4) : Rf.small ⟨s, c, r, x, y⟩ := ⟨hs, ⟨by show (0 : Int) ≤ (c : Int); omega, by show (c : Int) ≤ 3; omega⟩, by show (0 : Int) ≤ (r : Int); omega, by show (r : Int) ≤ 3; omega⟩
theorem tdiv_nat (n m : Nat) : (n : Int).tdiv (m : Int) = ((n / m : Nat) : Int) := by rw [Int.tdiv_eq_ediv_of_nonneg (by omega)]; rfl
theorem tmod_nat (n m : Nat) : (n : Int).tmod (m : Int) = ((n % m : Nat) : Int) := by rw [Int.tmod_eq_emod_of_nonneg (by omega)]; rfl
theorem and1 (n : Nat) : bits .and .i64 (n : Int) 1 = ((n % 2 : Nat) : Int) := by have := and_i64 (n : Int) 1 (by omega); simpa using this
theorem and3 (n : Nat) : bits .and .i64 (n : Int) 3 = ((n % 4 : Nat) : Int) := by have := and_i64 (n : Int) 2 (by omega); simpa using this
theorem vbool_any (b : Bool) (w : World) : Calls Tryd.prog 64 #[.bool b] w fun e w' => e = .returned (vlV 3 (if b then 1 else 0) ⟨#[]⟩) ∧ Ext w w' := by
  have hE := Ext.refl w
  cases b
  · go_enter Tryd.func64, Tryd.ntmps64
    go_wp2_with fail
    refine bodyPost_ret (v := vlV 3 0 ⟨#[]⟩) (by simp [results, Tryd.results64, go_sem, *]) rfl ⟨rfl, ?_⟩
    repeat (first | with_reducible assumption | (with_reducible refine below_set ?_ (by first | omega | (simp only [World.size_alloc]; omega))) | (with_reducible refine below_row ?_ (by first | omega | (simp only [World.size_alloc]; omega))) | (with_reducible refine below_drewN ?_ _) | (with_reducible refine below_drew1 ?_) | (with_reducible refine ext_alloc ?_ _))
  · go_enter Tryd.func64, Tryd.ntmps64
    go_wp2_with fail
    refine bodyPost_ret (v := vlV 3 1 ⟨#[]⟩) (by simp [results, Tryd.results64, go_sem, *]) rfl ⟨rfl, ?_⟩
    repeat (first | with_reducible assumption | (with_reducible refine below_set ?_ (by first | omega | (simp only [World.size_alloc]; omega))) | (with_reducible refine below_row ?_ (by first | omega | (simp only [World.size_alloc]; omega))) | (with_reducible refine below_drewN ?_ _) | (with_reducible refine below_drew1 ?_) | (with_reducible refine ext_alloc ?_ _))
/-- All stands as it stood, but what lies in block b. -/
structure ExtX (b : Nat) (W w : World) : Prop where
  os : w.os = W.os
  tape : w.tape = W.tape
  output : w.output = W.output
  size : W.heap.size ≤ w.heap.size
  block : ∀ k, k ≠ b → k < W.heap.size → w.heap[k]? = W.heap[k]?
theorem ExtX.of_ext {b : Nat} {W w : World} (h : Ext W w) : ExtX b W w := ⟨h.os, h.tape, h.output, h.size, fun k _ hk => Below.block h k hk⟩
theorem ExtX.refl (b : Nat) (W : World) : ExtX b W W := .of_ext (Ext.refl _)
theorem ExtX.trans {b : Nat} {W w v : World} (h : ExtX b W w) (k : ExtX b w v) : ExtX b W v :=
  ⟨k.os.trans h.os, k.tape.trans h.tape, k.output.trans h.output, Nat.le_trans h.size k.size, fun i hi hl => (k.block i hi (Nat.lt_of_lt_of_le hl h.size)).trans (h.block i hi hl)⟩
theorem ExtX.set {b : Nat} {W w : World} (h : ExtX b W w) (o : Nat) (v : Value) : ExtX b W (w.setCell ⟨b, o, none⟩ v) :=
  ⟨h.os, h.tape, h.output, by simpa using h.size, fun k hk hl => (Below.heap_setCell w ⟨b, o, none⟩ v k hk).trans (h.block k hk hl)⟩
theorem ExtX.blk {b : Nat} {W w : World} (h : ExtX b W w) {g : Nat} {o : Obj} (hg : W.heap[g]? = some o) (hb : g ≠ b) : w.heap[g]? = some o := by
  rw [h.block g hb (blk_lt hg), hg]
theorem ExtX.keeps {b : Nat} {W w : World} (h : ExtX b W w) {S : Nat → Prop} (hS : ¬ S b) : KeepsB S W w := fun k hk hl => h.block k (fun e => hS (e ▸ hk)) hl
/-- What a call that wrote block b alone leaves to a caller for whom b is new. -/
theorem ExtX.ext {b : Nat} {W w : World} (h : ExtX b W w) {W0 : World} (h0 : Ext W0 W) (hb : W0.heap.size ≤ b) : Ext W0 w :=
  ⟨h.os.trans h0.os, h.tape.trans h0.tape, h.output.trans h0.output, Nat.le_trans h0.size h.size, fun k hk => (h.block k (by omega) (Nat.lt_of_lt_of_le hk h0.size)).trans (Below.block h0 k hk)⟩
/-- Block b holds a seed: a slice of bytes that lie elsewhere. -/
def SeedIs (b : Nat) (W : World) (p : Option Addr) (len cap : Nat) (t : TypeId) : Prop :=
  W.heap[b]? = some (.cells #[.slice p len cap] t (0, 0)) ∧ len ≤ cap ∧ len ≤ 1000 ∧ ∀ j, j < len → ∃ g o, ∃ z : Nat, p = some ⟨g, o, none⟩ ∧ g < b ∧ z < 256 ∧ W.cell? ⟨g, o + j, none⟩ = some (.int .u8 (z : Int))
def SeedAt (b : Nat) (W : World) : Prop := ∃ p len cap t, SeedIs b W p len cap t
theorem SeedIs.ext {b : Nat} {W w : World} {p : Option Addr} {len cap : Nat} {t : TypeId} (h : SeedIs b W p len cap t) (hE : Ext W w) : SeedIs b w p len cap t := by
  obtain ⟨h1, h2, h3, h4⟩ := h
  refine ⟨hE.blk h1, h2, h3, fun j hj => ?_⟩
  obtain ⟨g, o, z, h5, h6, h7, h8⟩ := h4 j hj
  exact ⟨g, o, z, h5, h6, h7, ext_cell (World.block_lt_of_cell? _ _ h8) h8 _ hE⟩
theorem SeedAt.ext {b : Nat} {W w : World} (h : SeedAt b W) (hE : Ext W w) : SeedAt b w := by
  obtain ⟨p, len, cap, t, h⟩ := h
  exact ⟨p, len, cap, t, h.ext hE⟩
/-- Blocks behind b play no part. -/
theorem SeedAt.keep {b : Nat} {W w : World} (h : SeedAt b W) (hk : ∀ k, k ≤ b → w.heap[k]? = W.heap[k]?) : SeedAt b w := by
  obtain ⟨p, len, cap, t, h1, h2, h3, h4⟩ := h
  refine ⟨p, len, cap, t, (hk b (Nat.le_refl _)).trans h1, h2, h3, fun j hj => ?_⟩
  obtain ⟨g, o, z, h5, h6, h7, h8⟩ := h4 j hj
  refine ⟨g, o, z, h5, h6, h7, ?_⟩
  rw [← h8]
  simp only [World.cell?, hk g (Nat.le_of_lt h6)]
theorem SeedAt.row {b g : Nat} {w : World} (h : SeedAt b w) (hg : b < g) (cs : Array Value) : SeedAt b (w.setRow g cs) := h.keep fun k hk => setRow_other w g k cs (by omega)
theorem ExtX.row {b g : Nat} {W w : World} (h : ExtX b W w) (hg : W.heap.size ≤ g) (cs : Array Value) : ExtX b W (w.setRow g cs) :=
  ⟨h.os, h.tape, h.output, by rw [size_setRow]; exact h.size, fun k hk hl => (setRow_other w g k cs (by omega)).trans (h.block k hk hl)⟩
/-- The first byte is gone. -/
theorem SeedIs.next {b : Nat} {W : World} {g o len cap : Nat} {t : TypeId} (h : SeedIs b W (some ⟨g, o, none⟩) (len + 1) cap t) (p' : Option Addr) (hp : 0 < len → p' = some ⟨g, o + 1, none⟩) (cap' : Nat) (hc : cap' = cap - 1) :
    SeedAt b (W.setCell ⟨b, 0, none⟩ (.slice p' len cap')) := by
  obtain ⟨h1, h2, h3, h4⟩ := h
  refine ⟨p', len, cap', t, ?_, by omega, by omega, fun j hj => ?_⟩
  · rw [hq_put rfl, h1]; rfl
  · obtain ⟨g', o', z, h5, h6, h7, h8⟩ := h4 (j + 1) (by omega)
    cases h5
    refine ⟨g, o + 1, z, hp (by omega), h6, h7, ?_⟩
    rw [show o + 1 + j = o + (j + 1) by omega]
    rw [← h8]
    simp only [World.cell?, Below.heap_setCell W ⟨b, 0, none⟩ _ g (show g ≠ b by omega)]
theorem var_keeps {W w : World} {n : String} {g : Nat} (hg : Tryd.prog.globalNamed n = some g) (hk : w.heap[g]? = W.heap[g]?) : w.var? Tryd.prog n = W.var? Tryd.prog n := by
  unfold World.var?
  rw [hg]
  simp only [Option.bind_some, hk]
/-- Block b is none of those that hold what these functions lean on. -/
def LowB (b : Nat) : Prop := 0 < b ∧ 3 < b ∧ 6 < b ∧ 4 < b ∧ 5 < b
theorem EnvQ.low {W : World} (h : EnvQ W) : LowB W.heap.size := by
  obtain ⟨h0, ⟨m, h1⟩, h2, ⟨a, b, h3⟩, c, d, h4⟩ := h
  exact ⟨World.block_lt_of_cell? _ _ (Lib.TabIs.cell h0 gSpace 0 (by rw [Lib.asciiSpaceTab_length]; omega)), World.block_lt_of_cell? _ _ h1,
    World.block_lt_of_cell? _ _ ((World.var?_cell gPow h2 0).trans (by rfl : _ = some (Value.int .u64 1))), World.block_lt_of_cell? _ _ ((World.var?_cell gEsx h3 0).trans rfl), World.block_lt_of_cell? _ _ ((World.var?_cell gErg h4 0).trans rfl)⟩
theorem EnvQ.extX {W w : World} {b : Nat} (h : EnvQ W) (hb : LowB b) (hE : ExtX b W w) : EnvQ w := by
  obtain ⟨l0, l1, l2, l3, l4⟩ := hb
  obtain ⟨k0, k1, k2, k3, k4⟩ := h.low
  obtain ⟨h0, ⟨m, h1⟩, h2, ⟨a, b', h3⟩, c, d, h4⟩ := h
  refine ⟨?_, ⟨m, ?_⟩, ?_, ⟨a, b', ?_⟩, c, d, ?_⟩
  · unfold Tab Lib.TabIs at h0 ⊢; rw [var_keeps gSpace (hE.block _ (by omega) k0)]; exact h0
  · rw [← h1]; simp only [World.cell?, hE.block _ (show 3 ≠ b by omega) k1]
  · unfold Lib.TabIs at h2 ⊢; rw [var_keeps gPow (hE.block _ (by omega) k2)]; exact h2
  · rw [var_keeps gEsx (hE.block _ (by omega) k3)]; exact h3
  · rw [var_keeps gErg (hE.block _ (by omega) k4)]; exact h4
/-- An area near the first cell. -/
def SmallA (a b : Rf) : Prop := a.small ∧ a.s = 0 ∧ b.s = 0 ∧ (a.c ≤ b.c ∧ b.c ≤ a.c + 1) ∧ (a.r ≤ b.r ∧ b.r ≤ a.r + 2) ∧ a.x = b.x ∧ a.y = b.y
/-- The trees that seeds give, so deep at most. -/
inductive FT : Nat → Tr → Prop
  | lit (d : Nat) (k n : Int) (s : ByteArray) (h : vr k n s = true) (hn : -9223372036854775808 ≤ n ∧ n ≤ 9223372036854775807) (hs : s.size ≤ 64) : FT d (.mk (litS k n s) [])
  | one (d : Nat) (r : Rf) (h : r.small) : FT d (.mk (oneS r) [])
  | area (d : Nat) (a b : Rf) (h : SmallA a b) : FT d (.mk (areaS a b) [])
  | un (d : Nat) (k : Int) (t : Tr) (hk : k = 5 ∨ k = 6) (ht : FT d t) : FT (d + 1) (.mk (parS k 0) [t])
  | bin (d : Nat) (op : Int) (t t' : Tr) (hop : 1 ≤ op ∧ op ≤ 11) (ht : FT d t) (ht' : FT d t') : FT (d + 1) (.mk (parS 7 op) [t, t'])
  | call (d : Nat) (f : Int) (ts : List Tr) (hf : fitsOf f ts.length = true) (hn : ts.length ≤ 9) (ht : ∀ t ∈ ts, FT d t) : FT (d + 1) (.mk (parS 8 f) ts)
theorem exec_load_row {P : Program} {o : Oper} {a : Act} {w : World} (ty : TypeId) (x : Operand) (ho : o.op = .load ty x) {g : Nat} (hx : a.eval x = .pointer (some ⟨g, 0, none⟩)) {t : TypeId} {cs : Array Value} {fr : Nat × Nat} {d : TypeDesc} (hg : w.heap[g]? = some (.cells cs t fr))
    (hu : P.underlying ty = some d) (hd : (match d with | .struct _ | .array _ _ => true | _ => false) = true) (hi : (P.info? ty).map (·.size) = some cs.size) : (execOp a.eval o).run P w = .ok (.value (.agg cs)) w := by
  unfold execOp
  simp only [ho, hx, Instr.loadAt, Instr.sureAddr, Sem.run_bind, Sem.run_pure, Result.andThen_ok, run_loadVar_row w g t ty cs fr d hg hu hd hi]
theorem tm11 {c m : Nat} (h : (c : Int) % 11 = (m : Int)) : (c : Int).tmod 11 = (m : Int) := by rw [Int.tmod_eq_emod_of_nonneg (by omega)]; exact h
theorem wr1' {m : Nat} {op : Int} (h : (m : Int) + 1 = op) (h' : 1 ≤ op ∧ op ≤ 11) : IntKind.i64.wrap ((m : Int) + 1) = op := by rw [h]; exact IntWalk.i64_in _ ⟨by omega, by omega⟩
theorem wr1 {n : Nat} (h : n ≤ 100) : IntKind.i64.wrap (n : Int) = (n : Int) := IntWalk.i64_in _ ⟨by omega, by omega⟩
theorem wr2 {rr q m cr : Nat} (h : q ≤ 7) (hm : (q : Int) % 3 = (m : Int)) (hc : (rr : Int) + (m : Int) = (cr : Int)) (h3 : cr ≤ 100) : IntKind.i64.wrap ((rr : Int) + (IntKind.i64.wrap (q : Int)).tmod 3) = (cr : Int) := by
  rw [wr1 (n := q) (by omega), Int.tmod_eq_emod_of_nonneg (by omega), hm, hc]
  exact wr1 h3
theorem area_world {W0 W3 : World} {g7 : Nat} {v0 v1 v2 v3 v4 : Value} {t : TypeId} (x y : Value) (h7 : W3.heap[g7]? = some (.cells #[v0, v1, v2, v3, v4] t (0, 0))) (h8 : W3.heap[g7 + 1]? = some (.cells #[v0, v1, v2, v3, v4] t (0, 0))) (hE : Ext W0 W3) (hg : W0.heap.size ≤ g7) :
    ∃ W4, ((W3.setCell ⟨g7 + 1, 1, none⟩ x).setCell ⟨g7 + 1, 2, none⟩ y).drew = W4 ∧ W4.heap[g7]? = some (.cells #[v0, v1, v2, v3, v4] t (0, 0)) ∧ W4.heap[g7 + 1]? = some (.cells #[v0, x, y, v3, v4] t (0, 0)) ∧ Ext W0 W4 := by
  refine ⟨_, rfl, ?_, ?_, ?_⟩
  · rw [hq_drew, Below.heap_setCell _ _ _ _ (show g7 ≠ g7 + 1 by omega), Below.heap_setCell _ _ _ _ (show g7 ≠ g7 + 1 by omega), h7]
  · rw [hq_drew, hq_put rfl, hq_put rfl, h8]; rfl
  · exact ext_drew (ext_set (ext_set hE (by show W0.heap.size ≤ g7 + 1; omega)) (by show W0.heap.size ≤ g7 + 1; omega))
theorem small_area {rc rr cc cr m2 m3 : Nat} {rx ry : Bool} (h : cc = rc + m2 ∧ cr = rr + m3 ∧ rc ≤ 3 ∧ rr ≤ 3) (h2 : m2 < 2) (h3 : m3 < 3) : SmallA ⟨0, rc, rr, rx, ry⟩ ⟨0, cc, cr, rx, ry⟩ := by
  refine ⟨small_mk ⟨by omega, by omega⟩ (by omega) (by omega), rfl, rfl, ⟨?_, ?_⟩, ⟨?_, ?_⟩, rfl, rfl⟩
  · show (rc : Int) ≤ (cc : Int); omega
  · show (cc : Int) ≤ (rc : Int) + 1; omega
  · show (rr : Int) ≤ (cr : Int); omega
  · show (cr : Int) ≤ (rr : Int) + 2; omega
theorem fw0 {n : Nat} (h : n < 1000) : wrap64 (n : Int) = (n : Int) := IntWalk.wrap64_in _ ⟨by omega, by omega⟩
theorem fw2 {z : Nat} (h : z < 256) : wrap64 ((wrap64 (z : Int)).tmod 54 + 1) = ((z % 54 : Nat) : Int) + 1 := by
  rw [fw0 (n := z) (by omega), Int.tmod_eq_emod_of_nonneg (by omega)]
  exact IntWalk.wrap64_in _ ⟨by omega, by omega⟩
theorem fw1 {c : Nat} (h : c < 256) : wrap64 ((wrap64 ((c : Int) / 4)).tmod 54 + 1) = ((c / 4 % 54 : Nat) : Int) + 1 := by
  rw [show (c : Int) / 4 = ((c / 4 : Nat) : Int) from rfl]
  exact fw2 (by omega)
theorem fn_lo : ∀ k, k < 54 → fnLo k ≤ 3 ∧ fnLo k ≤ fnHi k := by
  have h : ((List.range 54).all fun k => decide (fnLo k ≤ 3 ∧ fnLo k ≤ fnHi k)) = true := by decide +kernel
  intro k hk
  exact of_decide_eq_true (List.all_eq_true.1 h k (List.mem_range.2 hk))
/-- Up to its least number of parts a function has too few. -/
theorem fits_at {F n : Nat} (hF : F < 54) (hn : n ≤ fnLo F) : fitsOf ((F : Int) + 1) (n : Int) = decide (n = fnLo F) := by
  obtain ⟨h1, h2⟩ := fn_lo F hF
  unfold fitsOf
  rw [decide_eq_true (show 1 ≤ (F : Int) + 1 ∧ (F : Int) + 1 ≤ 54 by omega), Bool.true_and, show ((F : Int) + 1).toNat - 1 = F by omega, Bool.eq_iff_iff]
  simp only [Bool.and_eq_true, decide_eq_true_eq]
  omega
def lenOf : Value → Nat
  | .slice _ n _ => n
  | _ => 0
def tAB : ByteArray := ⟨#[97, 34, 98]⟩
theorem tAB_size : tAB.size = 3 := rfl
theorem rep_text (W : World) (S : Nat → Prop) : Rep W S (.mk (litS 2 0 tAB) []) (litF 2 0 tAB) := rep_lit ⟨by omega, by omega⟩ (by rw [tAB_size]; omega)
theorem ft_text (d : Nat) : FT d (.mk (litS 2 0 tAB) []) := .lit d 2 0 tAB (by unfold vr; exact decide_eq_true (.inr (.inr (.inl ⟨rfl, rfl, by rw [tAB_size]; omega⟩)))) ⟨by omega, by omega⟩ (by rw [tAB_size]; omega)
theorem rep_bool (W : World) (S : Nat → Prop) {n : Int} (h : n = 0 ∨ n = 1) : Rep W S (.mk (litS 3 n ⟨#[]⟩) []) (litF 3 n ⟨#[]⟩) := rep_lit ⟨by omega, by omega⟩ (by show 0 ≤ _; omega)
theorem ft_bool (d : Nat) {n : Int} (h : n = 0 ∨ n = 1) : FT d (.mk (litS 3 n ⟨#[]⟩) []) := .lit d 3 n ⟨#[]⟩ (by rcases h with rfl | rfl <;> rfl) ⟨by omega, by omega⟩ (by show 0 ≤ 64; omega)
theorem rep_err (W : World) (S : Nat → Prop) {n : Int} (h : 1 ≤ n ∧ n ≤ 7) : Rep W S (.mk (litS 4 n ⟨#[]⟩) []) (litF 4 n ⟨#[]⟩) := rep_lit ⟨by omega, by omega⟩ (by show 0 ≤ _; omega)
theorem ft_err (d : Nat) {n : Int} (h : 1 ≤ n ∧ n ≤ 7) : FT d (.mk (litS 4 n ⟨#[]⟩) []) := .lit d 4 n ⟨#[]⟩ (by
  have : n = 1 ∨ n = 2 ∨ n = 3 ∨ n = 4 ∨ n = 5 ∨ n = 6 ∨ n = 7 := by omega
  rcases this with rfl | rfl | rfl | rfl | rfl | rfl | rfl <;> rfl) ⟨by omega, by omega⟩ (by show 0 ≤ 64; omega)
theorem rep_blank (W : World) (S : Nat → Prop) : Rep W S (.mk (litS 0 0 ⟨#[]⟩) []) (litF 0 0 ⟨#[]⟩) := rep_lit ⟨by omega, by omega⟩ (by show 0 ≤ _; omega)
theorem ft_blank (d : Nat) : FT d (.mk (litS 0 0 ⟨#[]⟩) []) := .lit d 0 0 ⟨#[]⟩ rfl ⟨by omega, by omega⟩ (by show 0 ≤ 64; omega)
end Go.Proofs.YtffogjhjgmohiaaDoor
