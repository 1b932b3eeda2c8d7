/-
  parse: the parser in memory; at, fail, is, want: walks. Conditions: each theorem's own.
-/
import Derived.Test.YtffogjhjgmohiaaDoorLexC
import Derived.Test.YtffogjhjgmohiaaDoorTreeN
namespace Go.Proofs.YtffogjhjgmohiaaDoor
open Go.RowKit
set_option linter.unusedVariables false
set_option linter.unusedSimpArgs false

/-- The parser in block b, at these tokens, so deep. -/
structure PS (b sh E d : Nat) (ts : List Tok) (p : Option Addr) (c : Nat) (W : World) : Prop where
  blk : W.heap[b]? = some (.cells #[.slice p ts.length c, .int .i64 (sh : Int), .int .i64 (E : Int), .int .i64 (d : Int)] 55 (0, 0))
  cap : ts.length ≤ c
  tok : ∀ (i : Nat) t, ts[i]? = some t → ∃ g o, p = some ⟨g, o, none⟩ ∧ g < b ∧ ∀ (j : Nat) v, (tokC t.k t.s t.p)[j]? = some v → W.cell? ⟨g, o + i * 3 + j, none⟩ = some v
  lim : ts.length ≤ 1000 ∧ (∀ t ∈ ts, t.s.length ≤ 1000 ∧ t.p ≤ 1000 ∧ 1 ≤ t.k ∧ t.k ≤ 5) ∧ sh < 3 ∧ E ≤ 1000 ∧ d ≤ 64
def PAt (b sh E d : Nat) (ts : List Tok) (W : World) : Prop := ∃ p c, PS b sh E d ts p c W
theorem PS.ext {b sh E d : Nat} {ts : List Tok} {p : Option Addr} {c : Nat} {W w : World} (h : PS b sh E d ts p c W) (hE : Ext W w) : PS b sh E d ts p c w :=
  ⟨hE.blk h.blk, h.cap, fun i t ht => by
    obtain ⟨g, o, h1, h2, h3⟩ := h.tok i t ht
    exact ⟨g, o, h1, h2, fun j v hj => ext_cell (World.block_lt_of_cell? _ _ (h3 j v hj)) (h3 j v hj) _ hE⟩, h.lim⟩
theorem PAt.ext {b sh E d : Nat} {ts : List Tok} {W w : World} (h : PAt b sh E d ts W) (hE : Ext W w) : PAt b sh E d ts w := by
  obtain ⟨p, c, h⟩ := h
  exact ⟨p, c, h.ext hE⟩
theorem PS.lt {b sh E d : Nat} {ts : List Tok} {p : Option Addr} {c : Nat} {W : World} (h : PS b sh E d ts p c W) : b < W.heap.size := blk_lt h.blk
theorem PS.cells {b sh E d : Nat} {ts : List Tok} {p : Option Addr} {c : Nat} {W : World} (h : PS b sh E d ts p c W) :
    W.cell? ⟨b, 0, none⟩ = some (.slice p ts.length c) ∧ W.cell? ⟨b, 1, none⟩ = some (.int .i64 (sh : Int)) ∧ W.cell? ⟨b, 2, none⟩ = some (.int .i64 (E : Int)) ∧ W.cell? ⟨b, 3, none⟩ = some (.int .i64 (d : Int)) :=
  ⟨by rw [cell_of_row W b 0 _ _ _ h.blk]; rfl, by rw [cell_of_row W b 1 _ _ _ h.blk]; rfl, by rw [cell_of_row W b 2 _ _ _ h.blk]; rfl, by rw [cell_of_row W b 3 _ _ _ h.blk]; rfl⟩
/-- Its first token. -/
theorem PS.head {b sh E d : Nat} {t : Tok} {ts : List Tok} {p : Option Addr} {c : Nat} {W : World} (h : PS b sh E d (t :: ts) p c W) :
    ∃ g o, p = some ⟨g, o, none⟩ ∧ g < b ∧ W.cell? ⟨g, o, none⟩ = some (.int .i64 (t.k : Int)) ∧ W.cell? ⟨g, o + 1, none⟩ = some (.string (Go.Proofs.YtffogjhjgmohiaaDoor.mk t.s)) ∧ W.cell? ⟨g, o + 2, none⟩ = some (.int .i64 (t.p : Int)) := by
  obtain ⟨g, o, h1, h2, h3⟩ := h.tok 0 t rfl
  simp only [Nat.zero_mul, Nat.add_zero] at h3
  exact ⟨g, o, h1, h2, h3 0 _ rfl, h3 1 _ rfl, h3 2 _ rfl⟩
/-- What a parser's world leans on. -/
def faultE (c p : Nat) : PanicEntry := { v := .iface 51 (.agg #[.int .i64 (c : Int), .int .i64 (p : Int)]), recovered := false }
set_option maxRecDepth 100000 in
set_option maxHeartbeats 4000000 in
theorem at_any (b sh E d : Nat) (ts : List Tok) (W : World) (h : PAt b sh E d ts W) :
    Calls Tryd.prog 27 #[.pointer (some ⟨b, 0, none⟩)] W fun e w' => e = .returned (.int .i64 (posF E ts : Int)) ∧ w' = W := by
  obtain ⟨p, c, h⟩ := h
  obtain ⟨c0, c1, c2, c3⟩ := h.cells
  have hl := h.lim.1
  cases ts with
  | nil =>
    clear h hl
    go_enter Tryd.func27, Tryd.ntmps27
    go_wp2_with fail
    go_ret
    exact ⟨rfl, rfl⟩
  | cons t r =>
    obtain ⟨g, o, rfl, hg, d0, d1, d2⟩ := h.head
    have hn : (((t :: r).length : Nat) : Int) = (r.length : Int) + 1 := by simp
    have hq : ((((t :: r).length : Nat) : Int) == 0) = false := by rw [hn, beq_eq_false_iff_ne]; omega
    have hpos : (0 : Int) < (((t :: r).length : Nat) : Int) := by omega
    clear h hl hn
    go_enter Tryd.func27, Tryd.ntmps27
    go_wp2_with fail
    go_ret
    exact ⟨rfl, rfl⟩
set_option maxRecDepth 100000 in
set_option maxHeartbeats 4000000 in
theorem fail_at (b sh E d : Nat) (ts : List Tok) (c : Nat) (W : World) (h : PAt b sh E d ts W) :
    Calls Tryd.prog 20 #[.pointer (some ⟨b, 0, none⟩), .int .i64 (c : Int)] W fun e w' => e = .panicked [faultE c (posF E ts)] ∧ w' = W := by
  have HA := Lib.hid (at_any b sh E d ts W h)
  obtain ⟨q, hq⟩ : ∃ q, posF E ts = q := ⟨_, rfl⟩
  rw [hq] at HA ⊢
  clear h hq
  go_enter Tryd.func20, Tryd.ntmps20
  go_wp2_with fail
  refine HA.out.mono ?_
  rintro e w2 ⟨rfl, rfl⟩
  go_wp2_with fail
  exact ⟨rfl, rfl, rfl⟩
/-! ### A token taken -/
theorem PS.next {b sh E d : Nat} {ts : List Tok} {g o c : Nat} {W : World} (h : PS b sh E d ts (some ⟨g, o, none⟩) c W) (k : Nat) (p' : Option Addr) (c' n : Nat) (hn : (ts.drop k).length = n) (hp : 0 < n → p' = some ⟨g, o + k * 3, none⟩) (hc : n ≤ c') :
    PS b sh E d (ts.drop k) p' c' (W.setCell ⟨b, 0, none⟩ (.slice p' n c')) := by
  subst hn
  refine ⟨?_, hc, fun i t ht => ?_, by rw [List.length_drop]; have := h.lim.1; omega, fun t ht => h.lim.2.1 t (List.mem_of_mem_drop ht), h.lim.2.2⟩
  · rw [hq_put rfl, h.blk]; rfl
  · have hlt := (List.getElem?_eq_some_iff.1 ht).1
    rw [List.getElem?_drop] at ht
    obtain ⟨g', o', hp2, hg', h3⟩ := h.tok (k + i) t ht
    cases hp2
    refine ⟨g, o + k * 3, hp (by omega), hg', fun j v hj => ?_⟩
    have := h3 j v hj
    rw [show o + k * 3 + i * 3 + j = o + (k + i) * 3 + j by omega, ← this]
    simp only [World.cell?, Below.heap_setCell W ⟨b, 0, none⟩ _ g (show g ≠ b by omega)]
theorem set_ext {b : Nat} {W : World} (v : Value) (i : Nat) : ExtX b W (W.setCell ⟨b, i, none⟩ v) := (ExtX.refl b W).set i v
/-- What a walk reads of a parser that has a token. -/
theorem PS.read {b sh E d : Nat} {t : Tok} {r : List Tok} {p : Option Addr} {c N : Nat} {W : World} (h : PS b sh E d (t :: r) p c W) (hN : r.length = N) :
    ∃ g o, p = some ⟨g, o, none⟩ ∧ g ≠ b ∧ W.cell? ⟨b, 0, none⟩ = some (.slice p (N + 1) c) ∧ W.cell? ⟨g, o, none⟩ = some (.int .i64 (t.k : Int)) ∧ W.cell? ⟨g, o + 1, none⟩ = some (.string (Go.Proofs.YtffogjhjgmohiaaDoor.mk t.s)) ∧ W.cell? ⟨g, o + 2, none⟩ = some (.int .i64 (t.p : Int)) ∧ N + 1 ≤ c := by
  obtain ⟨g, o, h1, h2, h3, h4, h5⟩ := h.head
  have h6 := h.cells.1
  have h7 := h.cap
  rw [List.length_cons, hN] at h6 h7
  exact ⟨g, o, h1, by omega, h6, h3, h4, h5, h7⟩
theorem mk_ne {a b : List UInt8} (h : a ≠ b) : ((mk a).toList == (mk b).toList) = false := by
  rw [beq_eq_false_iff_ne]
  intro e
  apply h
  have h2 := congrArg (fun z : ByteArray => z.data.toList) ((bytes_eq _ _).1 e)
  simpa [mk_list] using h2
theorem PAt.taken {b sh E d : Nat} {t : Tok} {r : List Tok} {g o c : Nat} {W : World} (h : PS b sh E d (t :: r) (some ⟨g, o, none⟩) c W) {p' : Option Addr} {c' N : Nat} (hn : r.length = N) (hp : 0 < N → p' = some ⟨g, o + 3, none⟩) (hc : N ≤ c') :
    PAt b sh E d r (W.setCell ⟨b, 0, none⟩ (.slice p' N c')) := ⟨p', c', h.next 1 p' c' N hn hp hc⟩
/-- What is hands back; want. -/
def IsP (b sh E d : Nat) (x : List UInt8) (ts : List Tok) (W : World) (e : Ending) (w' : World) : Prop :=
  (∃ r, isS x ts = some r ∧ e = .returned (.bool true) ∧ PAt b sh E d r w' ∧ ExtX b W w') ∨ (isS x ts = none ∧ e = .returned (.bool false) ∧ w' = W)
def WantP (b sh E d : Nat) (x : List UInt8) (ts : List Tok) (W : World) (e : Ending) (w' : World) : Prop :=
  (∃ r, isS x ts = some r ∧ e = .returned (.tuple #[]) ∧ PAt b sh E d r w' ∧ ExtX b W w') ∨ (isS x ts = none ∧ e = .panicked [faultE 2 (posF E ts)] ∧ w' = W)
set_option maxRecDepth 100000 in
set_option maxHeartbeats 8000000 in
theorem is_any (b sh E d : Nat) (ts : List Tok) (x : List UInt8) (W : World) (h : PAt b sh E d ts W) :
    Calls Tryd.prog 37 #[.pointer (some ⟨b, 0, none⟩), .string (mk x)] W (IsP b sh E d x ts W) := by
  obtain ⟨p, c, h⟩ := h
  cases ts with
  | nil =>
    obtain ⟨c0, c1, c2, c3⟩ := h.cells
    clear h
    go_enter Tryd.func37, Tryd.ntmps37
    go_wp2_with fail
    go_ret
    exact .inr ⟨rfl, rfl, rfl⟩
  | cons t r =>
    obtain ⟨N, hN⟩ : ∃ N, r.length = N := ⟨_, rfl⟩
    obtain ⟨g, o, rfl, hg, c0, d0, d1, d2, hcap⟩ := h.read hN
    have hl := h.lim.1
    rw [List.length_cons, hN] at hl
    have hq : (((N : Int) + 1) == 0) = false := by rw [beq_eq_false_iff_ne]; omega
    have hq' : ¬ ((N : Int) + 1 = 0) := by omega
    have hpos : (0 : Int) < (N : Int) + 1 := by omega
    have hpos1 : (1 : Int) ≤ (N : Int) + 1 := by omega
    have hcI : (N : Int) + 1 ≤ (c : Int) := by omega
    have f0 : W.frozen? ⟨b, 0, none⟩ = false := frozen_of_row W b 0 _ _ h.blk
    have HPS := Lib.hid h
    have HN := Lib.hid hN
    have HCAP := Lib.hid hcap
    by_cases hk : t.k = 4
    · rw [hk] at d0
      by_cases hx : t.s = x
      · have HI : Hid (isS x (t :: r) = some r) := Lib.hid (by simp [isS, hk, hx])
        rw [hx] at d1
        clear h hl hk hx hN d2 hcap
        go_enter Tryd.func37, Tryd.ntmps37
        go_wp2_with fail
        all_goals go_ret
        all_goals exact .inl ⟨r, HI.out, rfl, PAt.taken HPS.out HN.out (by intro _; first | rfl | omega) (by have := HCAP.out; omega), set_ext _ _⟩
      · have HI : Hid (isS x (t :: r) = none) := Lib.hid (by simp [isS, hx])
        have hne := mk_ne hx
        clear h hl hx hk hN d2 hcap
        go_enter Tryd.func37, Tryd.ntmps37
        go_wp2_with fail
        go_ret
        exact .inr ⟨HI.out, rfl, rfl⟩
    · have HI : Hid (isS x (t :: r) = none) := Lib.hid (by simp [isS, hk])
      have hkq : ((t.k : Int) == 4) = false := by rw [beq_eq_false_iff_ne]; omega
      have hkq' : ¬ ((t.k : Int) = 4) := by omega
      clear h hl hk hN d1 d2 hcap
      go_enter Tryd.func37, Tryd.ntmps37
      go_wp2_with fail
      go_ret
      exact .inr ⟨HI.out, rfl, rfl⟩
set_option maxRecDepth 100000 in
set_option maxHeartbeats 4000000 in
theorem want_any (b sh E d : Nat) (ts : List Tok) (x : List UInt8) (W : World) (h : PAt b sh E d ts W) :
    Calls Tryd.prog 47 #[.pointer (some ⟨b, 0, none⟩), .string (mk x)] W (WantP b sh E d x ts W) := by
  have HI := Lib.hid (is_any b sh E d ts x W h)
  have HF := Lib.hid (fail_at b sh E d ts 2 W h)
  clear h
  go_enter Tryd.func47, Tryd.ntmps47
  go_wp2_with fail
  refine HI.out.mono ?_
  rintro e w2 (⟨r, hi, rfl, hP, hX⟩ | ⟨hi, rfl, rfl⟩)
  · have HP := Lib.hid hP
    have HX := Lib.hid hX
    have HIS := Lib.hid hi
    clear hP hX hi
    go_wp2_with fail
    refine bodyPost_ret (v := .tuple #[]) (by simp [results, Tryd.results47, go_sem]) rfl (.inl ⟨r, HIS.out, rfl, HP.out, HX.out⟩)
  · have HIS := Lib.hid hi
    clear hi
    go_wp2_with fail
    refine HF.out.mono ?_
    rintro e w3 ⟨rfl, rfl⟩
    exact ⟨rfl, .inr ⟨HIS.out, rfl, rfl⟩⟩
/-! ### What parsers lean on -/
def lvlTxt : Nat → ByteArray
  | 0 => ⟨#[61, 32, 60, 62, 32, 60, 32, 60, 61, 32, 62, 32, 62, 61]⟩
  | 1 => ⟨#[38]⟩
  | 2 => ⟨#[43, 32, 45]⟩
  | _ => ⟨#[42, 32, 47]⟩
def opsTxt : ByteArray := ⟨#[43, 32, 45, 32, 42, 32, 47, 32, 38, 32, 61, 32, 60, 62, 32, 60, 32, 60, 61, 32, 62, 32, 62, 61]⟩
def EnvX (W : World) : Prop := EnvQ W ∧ ∀ k, k < 4 → W.cell? ⟨1, k, none⟩ = some (.string (lvlTxt k))
def LowX (b : Nat) : Prop := LowB b ∧ 1 < b
theorem EnvX.ext {W w : World} (h : EnvX W) (hE : Ext W w) : EnvX w := ⟨h.1.ext hE, fun k hk => ext_cell (World.block_lt_of_cell? _ _ (h.2 k hk)) (h.2 k hk) _ hE⟩
theorem EnvX.low {W : World} (h : EnvX W) : LowX W.heap.size := ⟨h.1.low, World.block_lt_of_cell? _ _ (h.2 0 (by decide))⟩
theorem EnvX.extX {W w : World} {b : Nat} (h : EnvX W) (hb : LowX b) (hE : ExtX b W w) : EnvX w := by
  refine ⟨h.1.extX hb.1 hE, fun k hk => ?_⟩
  have hl := h.low.2
  have hb' := hb.2
  rw [← h.2 k hk]
  simp only [World.cell?, hE.block _ (show 1 ≠ b by omega) hl]
theorem ascii_of {s : ByteArray} (h : (s.data.toList.all fun b => decide (b.toNat < 128)) = true) : ∀ (j : Nat) b, s.data.toList[j]? = some b → b.toNat < 128 := by
  intro j b hj
  exact of_decide_eq_true (List.all_eq_true.1 h b (List.mem_of_getElem? hj))
/-- strings.Fields of a text that stands in the program. -/
def FieldsOf (txt : ByteArray) (L : List (List UInt8)) : Prop := ∀ w, Tab w → Calls Tryd.prog 21 #[.string txt] w fun e w' => e = .returned (.slice (some ⟨w.heap.size, 0, none⟩) L.length L.length) ∧ w' = w.alloc (.cells (L.map fun l => Value.string ⟨l.toArray⟩).toArray 9)
theorem fields_of {txt : ByteArray} {L : List (List UInt8)} (h1 : Lib.fields txt.data.toList = L) (h2 : (txt.data.toList.all fun b => decide (b.toNat < 128)) = true) (h3 : txt.size < 4294967281) : FieldsOf txt L := by
  intro w ht
  have h := Tryd.strings_Fields txt w h3 (ascii_of h2) ht
  rwa [h1] at h
theorem lvl_fields : ∀ k, k < 4 → FieldsOf (lvlTxt k) (lvlLit k) := by
  intro k hk
  match k, hk with
  | 0, _ => exact fields_of (by decide +kernel) (by decide +kernel) (by decide)
  | 1, _ => exact fields_of (by decide +kernel) (by decide +kernel) (by decide)
  | 2, _ => exact fields_of (by decide +kernel) (by decide +kernel) (by decide)
  | 3, _ => exact fields_of (by decide +kernel) (by decide +kernel) (by decide)
theorem ops_fields : FieldsOf opsTxt opsLit := fields_of (by decide +kernel) (by decide +kernel) (by decide)
/-! ### op -/
def OpP (b sh E d lvl : Nat) (ts : List Tok) (W : World) (e : Ending) (w' : World) : Prop :=
  (∃ n r, opF lvl ts = some (n, r) ∧ 1 ≤ n ∧ e = .returned (.int .i64 (n : Int)) ∧ PAt b sh E d r w' ∧ ExtX b W w') ∨ (opF lvl ts = none ∧ e = .returned (.int .i64 0) ∧ Ext W w')
theorem lvl_sub : ∀ k, k < 4 → ∀ x ∈ lvlLit k, x ∈ opsLit := by
  intro k hk
  match k, hk with
  | 0, _ => decide
  | 1, _ => decide
  | 2, _ => decide
  | 3, _ => decide
theorem opNo_at {x : List UInt8} {i : Nat} (hx : opsLit[i]? = some x) (hb : ∀ j, j < i → ∀ y, opsLit[j]? = some y → y ≠ x) : opNo x = i + 1 := by
  have h : opsLit.findIdx? (· == x) = some i := by
    rw [List.findIdx?_eq_some_iff_getElem]
    have hi := (List.getElem?_eq_some_iff.1 hx).1
    refine ⟨hi, by rw [(List.getElem?_eq_some_iff.1 hx).2]; simp, fun j hj => ?_⟩
    have := hb j hj _ (List.getElem?_eq_getElem (by omega))
    simpa using this
  unfold opNo
  rw [h]
set_option maxRecDepth 100000 in
set_option maxHeartbeats 8000000 in
theorem op_any (b sh E d lvl : Nat) (ts : List Tok) (W : World) (h : PAt b sh E d ts W) (hlvl : lvl < 4) (hE : EnvX W) (hb : LowX b) :
    Calls Tryd.prog 25 #[.pointer (some ⟨b, 0, none⟩), .int .i64 (lvl : Int)] W (OpP b sh E d lvl ts W) := by
  obtain ⟨p, c, h⟩ := h
  cases ts with
  | nil =>
    obtain ⟨c0, c1, c2, c3⟩ := h.cells
    have hr := Lib.hid (Ext.refl W)
    clear h
    go_enter Tryd.func25, Tryd.ntmps25
    go_wp2_with fail
    go_ret
    exact .inr ⟨rfl, rfl, hr.out⟩
  | cons t r =>
    obtain ⟨N, hN⟩ : ∃ N, r.length = N := ⟨_, rfl⟩
    obtain ⟨g, o, rfl, hg, c0, d0, d1, d2, hcap⟩ := h.read hN
    have hl := h.lim.1
    rw [List.length_cons, hN] at hl
    have hq : (((N : Int) + 1) == 0) = false := by rw [beq_eq_false_iff_ne]; omega
    have hq' : ¬ ((N : Int) + 1 = 0) := by omega
    have hpos : (0 : Int) < (N : Int) + 1 := by omega
    have hpos1 : (1 : Int) ≤ (N : Int) + 1 := by omega
    have hcI : (N : Int) + 1 ≤ (c : Int) := by omega
    have HPS := Lib.hid h
    have HN := Lib.hid hN
    have HCAP := Lib.hid hcap
    have HREF := Lib.hid (Ext.refl W)
    by_cases hk : t.k = 4
    case neg =>
      have HI : Hid (opF lvl (t :: r) = none) := Lib.hid (by simp [opF, hk])
      have hkq : ((t.k : Int) == 4) = false := by rw [beq_eq_false_iff_ne]; omega
      have hkq' : ¬ ((t.k : Int) = 4) := by omega
      clear h hl hk hN d1 d2 hcap
      go_enter Tryd.func25, Tryd.ntmps25
      go_wp2_with fail
      go_ret
      exact .inr ⟨HI.out, rfl, HREF.out⟩
    rw [hk] at d0
    have HK := Lib.hid hk
    have cl := hE.2 lvl hlvl
    obtain ⟨L, hL⟩ : ∃ L, lvlLit lvl = L := ⟨_, rfl⟩
    have HSUB : Hid (∀ x ∈ L, x ∈ opsLit) := Lib.hid (by rw [← hL]; exact lvl_sub lvl hlvl)
    have HO : Hid (opF lvl (t :: r) = if L.contains t.s then some (opNo t.s, r) else none) := Lib.hid (by simp [opF, hk, hL])
    have HL6 : Hid (L.length ≤ 6) := Lib.hid (by
      rw [← hL]
      have : ∀ k, k < 4 → (lvlLit k).length ≤ 6 := by
        intro k hk
        match k, hk with
        | 0, _ => decide
        | 1, _ => decide
        | 2, _ => decide
        | 3, _ => decide
      exact this lvl hlvl)
    have HF := lvl_fields lvl hlvl
    rw [hL] at HF
    have HF := Lib.hid HF
    have HT := Lib.hid hE.1.1
    have HENV := Lib.hid hE
    have HB := Lib.hid hb
    have HLV := Lib.hid hlvl
    have hlv4 : (lvl : Int) < 4 := by omega
    have hlv0 : (0 : Int) ≤ (lvl : Int) := by omega
    have f0 : W.frozen? ⟨b, 0, none⟩ = false := frozen_of_row W b 0 _ _ h.blk
    have HLT := Lib.hid h.lt
    have HGLT : Hid (g < W.heap.size) := Lib.hid (World.block_lt_of_cell? _ _ d0)
    clear h hl hk hN d2 hcap hE hb hlvl hL
    obtain ⟨M, hM⟩ : ∃ M, L.length = M := ⟨_, rfl⟩
    have HM := Lib.hid hM
    go_enter Tryd.func25, Tryd.ntmps25
    go_wp2_with fail
    refine (HF.out W HT.out).mono ?_
    rintro e w2 ⟨rfl, hw2⟩
    rw [hM]
    clear hM
    have HX2 : Hid (Ext W w2) := Lib.hid (by rw [hw2]; exact below_alloc1 _ _)
    have HG2 : Hid (w2.heap[W.heap.size]? = some (.cells (L.map fun l => Value.string ⟨l.toArray⟩).toArray 9 (0, 0))) := Lib.hid (by rw [hw2]; exact hq_at _ _ rfl)
    clear hw2
    go_wp2_with fail
    go_loopw [7, 38] (fun _ si wr => ∃ i : Nat, i ≤ M ∧ si = .int .i64 (i : Int) ∧ Hid (∀ j, j < i → ∀ y, L[j]? = some y → y ≠ t.s) ∧ Hid (Ext w2 wr)) (fun _ si _ => M - (intOf si).toNat)
    case atStart => exact ⟨0, Nat.zero_le _, rfl, Lib.hid (fun j hj => absurd hj (by omega)), Lib.hid (Ext.refl _)⟩
    case round =>
      obtain ⟨i, hi, rfl, HNO, HXr⟩ := hrel
      by_cases hiM : i = M
      · subst hiM
        have HI : Hid (opF lvl (t :: r) = none) := Lib.hid (by
          rw [HO.out, if_neg]
          intro hc
          have hm : t.s ∈ L := by simpa using hc
          obtain ⟨j, hj⟩ := List.mem_iff_getElem?.1 hm
          exact HNO.out j (by have := (List.getElem?_eq_some_iff.1 hj).1; rw [HM.out] at this; exact this) _ hj rfl)
        go_wp2_with fail
        go_ret
        exact .inr ⟨HI.out, rfl, HX2.out.trans HXr.out⟩
      have hiM' : i < M := by omega
      have hiI : (i : Int) < (M : Int) := by omega
      have HIM := Lib.hid hiM'
      obtain ⟨x, hx⟩ : ∃ x, L[i]? = some x := ⟨_, List.getElem?_eq_getElem (by rw [HM.out]; exact hiM')⟩
      have hcx : wr.cell? ⟨W.heap.size, i, none⟩ = some (.string (mk x)) := by
        rw [cell_of_row wr W.heap.size i _ _ _ (HXr.out.blk HG2.out), List.getElem?_toArray, List.getElem?_map, hx]
        rfl
      have HX1 := Lib.hid hx
      clear hx hiM
      by_cases hxs : x = t.s
      case neg =>
        have hne := mk_ne hxs
        have HN2 : Hid (∀ j, j < i + 1 → ∀ y, L[j]? = some y → y ≠ t.s) := Lib.hid (fun j hj y hy => by
          by_cases hji : j = i
          · subst hji; rw [HX1.out] at hy; cases hy; exact hxs
          · exact HNO.out j (by omega) y hy)
        clear hxs
        have hM6 : (M : Int) ≤ 6 := by have := HL6.out; have := HM.out; omega
        go_wp2_with fail
        exact ⟨⟨i + 1, HIM.out, rfl, HN2, HXr⟩, by have := HIM.out; simp [intOf]; omega⟩
      have HXM : Hid (t.s ∈ L) := Lib.hid (by rw [← hxs]; exact List.mem_of_getElem? HX1.out)
      subst hxs
      have HEX := Lib.hid (HX2.out.trans HXr.out)
      have e0 : wr.cell? ⟨b, 0, none⟩ = some (.slice (some ⟨g, o, none⟩) (N + 1) c) := ext_cell HLT.out c0 _ HEX.out
      have f1 : wr.frozen? ⟨b, 0, none⟩ = false := ext_frozen HLT.out f0 _ HEX.out
      have HPR := Lib.hid (HPS.out.ext HEX.out)
      have HOP : Hid (opF lvl (t :: r) = some (opNo t.s, r)) := Lib.hid (by rw [HO.out, if_pos (by simpa using HXM.out)])
      go_upto_region 9 with (fail)
      obtain ⟨p', hp'⟩ : ∃ p', (if c = 1 then (some ⟨g, o, none⟩ : Option Addr) else some ⟨g, o + 3, none⟩) = p' := ⟨_, rfl⟩
      rw [hp']
      obtain ⟨w3, hw3⟩ : ∃ w3, wr.setCell ⟨b, 0, none⟩ (.slice p' N (c - 1)) = w3 := ⟨_, rfl⟩
      have HP3 : Hid (PAt b sh E d r w3) := Lib.hid (by
        rw [← hw3]
        refine PAt.taken HPR.out HN.out ?_ ?_
        · intro h0
          have := HCAP.out
          rw [← hp', if_neg (by omega)]
        · have := HCAP.out
          omega)
      have HX3 : Hid (ExtX b W w3) := Lib.hid (by rw [← hw3]; exact (ExtX.of_ext HEX.out).trans (set_ext _ _))
      rw [hw3]
      clear hw3 hp'
      have HT3 := Lib.hid (HENV.out.extX HB.out HX3.out).1.1
      go_wp2_with fail
      refine (ops_fields w3 HT3.out).mono ?_
      rintro e w4 ⟨rfl, hw4⟩
      have HX4 : Hid (Ext w3 w4) := Lib.hid (by rw [hw4]; exact below_alloc1 _ _)
      have HG4 : Hid (w4.heap[w3.heap.size]? = some (.cells (opsLit.map fun l => Value.string ⟨l.toArray⟩).toArray 9 (0, 0))) := Lib.hid (by rw [hw4]; exact hq_at _ _ rfl)
      clear hw4
      rw [show opsLit.length = 11 from rfl]
      have HM11 : Hid (t.s ∈ opsLit) := Lib.hid (HSUB.out _ HXM.out)
      go_wp2_with fail
      go_loopw [8, 9, 55] (fun _ _ si wq => ∃ j : Nat, j ≤ 11 ∧ si = .int .i64 (j : Int) ∧ Hid (∀ k, k < j → ∀ y, opsLit[k]? = some y → y ≠ t.s) ∧ Hid (Ext w4 wq)) (fun _ _ si _ => 11 - (intOf si).toNat)
      case atStart => exact ⟨0, Nat.zero_le _, rfl, Lib.hid (fun j hj => absurd hj (by omega)), Lib.hid (Ext.refl _)⟩
      case round =>
        obtain ⟨j, hj, rfl, HNJ, HXq⟩ := hrel
        by_cases hjM : j = 11
        · exfalso
          obtain ⟨k, hk⟩ := List.mem_iff_getElem?.1 HM11.out
          exact HNJ.out k (by have := (List.getElem?_eq_some_iff.1 hk).1; rw [show opsLit.length = 11 from rfl] at this; omega) _ hk rfl
        have hjM' : j < 11 := by omega
        have hjI : (j : Int) < 11 := by omega
        have HJM := Lib.hid hjM'
        obtain ⟨y, hy⟩ : ∃ y, opsLit[j]? = some y := ⟨_, List.getElem?_eq_getElem (by rw [show opsLit.length = 11 from rfl]; exact hjM')⟩
        have hcy : wr.cell? ⟨w3.heap.size, j, none⟩ = some (.string (mk y)) := by
          rw [cell_of_row wr w3.heap.size j _ _ _ (HXq.out.blk HG4.out), List.getElem?_toArray, List.getElem?_map, hy]
          rfl
        have HY1 := Lib.hid hy
        clear hy hjM
        by_cases hys : y = t.s
        case neg =>
          have hne := mk_ne hys
          have HN2 : Hid (∀ k, k < j + 1 → ∀ z, opsLit[k]? = some z → z ≠ t.s) := Lib.hid (fun k hk z hz => by
            by_cases hkj : k = j
            · subst hkj; rw [HY1.out] at hz; cases hz; exact hys
            · exact HNJ.out k (by omega) z hz)
          clear hys
          go_wp2_with fail
          exact ⟨⟨j + 1, HJM.out, rfl, HN2, HXq⟩, by have := HJM.out; simp [intOf]; omega⟩
        have HNO : Hid (opNo t.s = j + 1) := Lib.hid (opNo_at (by rw [HY1.out, hys]) HNJ.out)
        rw [hys] at hcy
        clear hys
        go_wp2_with fail
        go_ret
        refine .inl ⟨opNo t.s, r, HOP.out, by rw [HNO.out]; omega, by rw [HNO.out]; rfl, HP3.out.ext (HX4.out.trans HXq.out), HX3.out.trans (.of_ext (HX4.out.trans HXq.out))⟩
end Go.Proofs.YtffogjhjgmohiaaDoor
