/-
  lists: Count, equal, CountIf, SumIf, Match: walks. Conditions: each theorem's own.
-/
import Derived.Test.YtpnnjmckjipacaaListsB
namespace Go.Proofs.Ytpnnjmckjipacaa
open Go.RowKit Num
set_option linter.unusedVariables false

/-! ### How many are of a kind -/
def isKind (kind : Int) (is : Bool) (v : Vl) : Bool := (v.k == kind) == is
def cnt (p : Vl → Bool) (L : List Vl) : Nat := (L.filter p).length
theorem cnt_snoc (p : Vl → Bool) (L : List Vl) (v : Vl) : cnt p (L ++ [v]) = cnt p L + if p v then 1 else 0 := by
  unfold cnt; rw [List.filter_append]; by_cases h : p v <;> simp [h]
theorem cnt_le (p : Vl → Bool) (L : List Vl) : cnt p L ≤ L.length := List.length_filter_le _ _

theorem count_any (kind : Int) (is : Bool) (a : Option Addr) (len cap : Nat) (L : List Vl) (w : World) (h : VIn w a len L) (hl : len ≤ 1000000) :
    Calls Try.prog 11 #[.int .i64 kind, .bool is, .slice a len cap] w (RetV 1 ((cnt (isKind kind is) L : Nat) * 1000000) { data := #[] } w) := by
  obtain ⟨p, hp⟩ : ∃ p, isKind kind is = p := ⟨_, rfl⟩
  rw [hp]
  have HP := Lib.hid hp
  clear hp
  obtain ⟨W, hW, hbW, hRB⟩ := start1 w
  have HW := Lib.hid hW
  clear hW
  go_enter Try.func11, Try.ntmps11
  go_wp2_with fail
  rw [HW.out]
  go_loopw [7, 12] (fun sn si wr => ∃ i : Nat, i ≤ len ∧ si = .int .i64 (i : Int) ∧ sn = .int .i64 ((cnt p (L.take i) : Nat) : Int) ∧ Below w.heap.size w wr ∧ RB wr w.heap.size) (fun _ si _ => len - (intOf si).toNat)
  case atStart => exact ⟨0, by omega, rfl, rfl, hbW, hRB⟩
  case round =>
    obtain ⟨i, hi, rfl, rfl, hbw, hrb⟩ := hrel
    have hcl := cnt_le p (L.take i)
    have hcl2 : cnt p (L.take i) ≤ 1000000 := by rw [List.length_take] at hcl; omega
    clear hcl hRB hbW
    by_cases hlt : i < len
    · have hL := h.1
      obtain ⟨b, off, rfl, hB, hc⟩ := (h.below hbw).2 (by omega)
      obtain ⟨h1, h2, h3⟩ := hc i (by omega)
      have hsn := take_vl (L := L) (k := i) (by omega)
      obtain ⟨v, hv⟩ : ∃ v, L.getD i v0 = v := ⟨_, rfl⟩
      rw [hv] at h1 h2 h3 hsn
      have hst : cnt p (L.take (i + 1)) = cnt p (L.take i) + if p v then 1 else 0 := by rw [hsn, cnt_snoc]
      have hpv : p v = ((v.k == kind) == is) := by rw [← HP.out]; rfl
      clear hv hsn hc hL
      by_cases hk : p v = true
      · rw [if_pos hk] at hst
        have HST := Lib.hid hst
        have tk : ((v.k == kind) == is) = true := by rw [← hpv]; exact hk
        clear hk hst hpv
        go_wp2
        go_roundw
        case rel => exact ⟨i + 1, by omega, by go_num, by rw [HST.out]; go_num, hbw.alloc hbw.size _, hrb.step (below_alloc _ _)⟩
        case measure => simp [intOf]; omega
      · have hk' : p v = false := by simpa using hk
        rw [if_neg hk] at hst
        have HST := Lib.hid hst
        have tk : ((v.k == kind) == is) = false := by rw [← hpv]; exact hk'
        clear hk hk' hst hpv
        go_wp2
        go_roundw
        case rel => exact ⟨i + 1, by omega, by go_num, by rw [HST.out]; rfl, hbw.alloc hbw.size _, hrb.step (below_alloc _ _)⟩
        case measure => simp [intOf]; omega
    · have hall : L.take i = L := List.take_of_length_le (by rw [h.1]; omega)
      rw [hall] at hcl2 ⊢
      obtain ⟨n, hn⟩ : ∃ n, cnt p L = n := ⟨_, rfl⟩
      rw [hn] at hcl2 ⊢
      have HN := Lib.hid hn
      clear hall hn
      go_wp2_with fail
      refine (of_yes n _ (by omega)).mono ?_
      rintro e w' ⟨rfl, rfl⟩
      go_wp2_with fail
      refine (vmade_yes _ _).mono ?_
      rintro e w2 ⟨rfl, hb2⟩
      have hb3 := hbw.trans (hb2.mono hbw.size)
      obtain ⟨g0, c0, c1, c2, f0, f1, f2⟩ := hrb.step hb2
      clear hb2 hbw hrb
      go_wp2
      refine bodyPost_ret (v := .agg #[.int .i64 1, .int .i64 ((n : Int) * 1000000), .string { data := #[] }]) (by simp [results, Try.results11, go_sem, c0, c1, c2]) rfl ⟨by rw [HN.out], below_fillg (Nat.le_refl _) hb3 _ _ _⟩

/-! ### Alike -/
def veq (x y : Vl) : Bool := decide (x.k = y.k ∧ x.n = y.n ∧ x.s = y.s)
theorem veq_iff (x y : Vl) : veq x y = true ↔ x = y := by
  unfold veq
  rw [decide_eq_true_eq]
  constructor
  · intro ⟨h1, h2, h3⟩; cases x; cases y; simp at h1 h2 h3; subst h1 h2 h3; rfl
  · intro h; subst h; exact ⟨rfl, rfl, rfl⟩
theorem str_eq (a b : ByteArray) : (a.toList == b.toList) = decide (a = b) := by
  rw [Lib.toList_data, Lib.toList_data, Bool.eq_iff_iff]
  simp only [beq_iff_eq, decide_eq_true_eq]
  exact ⟨fun h => ByteArray.ext (Array.ext' h), fun h => by rw [h]⟩
theorem equal_any (x y : Vl) (w : World) :
    Calls Try.prog 33 #[.agg #[.int .i64 x.k, .int .i64 x.n, .string x.s], .agg #[.int .i64 y.k, .int .i64 y.n, .string y.s]] w fun e w' => e = .returned (.bool (veq x y)) ∧ Below w.heap.size w w' := by
  obtain ⟨u, hu⟩ : ∃ u, veq x y = u := ⟨_, rfl⟩
  rw [hu]
  have hq : ((x.k == y.k) && (x.n == y.n) && (x.s.toList == y.s.toList)) = u := by
    rw [← hu, str_eq]
    unfold veq
    rw [Bool.eq_iff_iff]
    simp [and_assoc]
  clear hu
  by_cases h1 : (x.k == y.k) = true
  · by_cases h2 : (x.n == y.n) = true
    · have HQ : Hid ((x.s.toList == y.s.toList) = u) := by show _ = _; rw [← hq, h1, h2]; simp
      clear hq
      go_enter Try.func33, Try.ntmps33
      go_wp2
      go_ret
      exact ⟨by rw [← HQ.out]; rfl, ((Below.refl _ _).alloc (Nat.le_refl _) _).alloc (by simp) _⟩
    · have h2' : (x.n == y.n) = false := by simpa using h2
      have HQ : Hid (u = false) := by show _ = _; rw [← hq, h1, h2']; rfl
      clear hq h2
      go_enter Try.func33, Try.ntmps33
      go_wp2
      go_ret
      exact ⟨by rw [HQ.out]; rfl, ((Below.refl _ _).alloc (Nat.le_refl _) _).alloc (by simp) _⟩
  · have h1' : (x.k == y.k) = false := by simpa using h1
    have HQ : Hid (u = false) := by show _ = _; rw [← hq, h1']; rfl
    clear hq h1
    go_enter Try.func33, Try.ntmps33
    go_wp2
    go_ret
    exact ⟨by rw [HQ.out]; rfl, ((Below.refl _ _).alloc (Nat.le_refl _) _).alloc (by simp) _⟩

/-! ### What is alike is counted, summed up, found -/
theorem countif_any (x : Vl) (a : Option Addr) (len cap : Nat) (L : List Vl) (w : World) (h : VIn w a len L) (hl : len ≤ 1000000) :
    Calls Try.prog 15 #[.agg #[.int .i64 x.k, .int .i64 x.n, .string x.s], .slice a len cap] w (RetV 1 ((cnt (fun v => veq v x) L : Nat) * 1000000) { data := #[] } w) := by
  obtain ⟨p, hp⟩ : ∃ p, (fun v => veq v x) = p := ⟨_, rfl⟩
  rw [hp]
  have HP := Lib.hid hp
  clear hp
  obtain ⟨W, hW, hbW, hXB, hRB⟩ := start2 w x
  have HW := Lib.hid hW
  clear hW
  go_enter Try.func15, Try.ntmps15
  go_wp2_with fail
  rw [HW.out]
  go_loopw [5, 10] (fun sn si wr => ∃ i : Nat, i ≤ len ∧ si = .int .i64 (i : Int) ∧ sn = .int .i64 ((cnt p (L.take i) : Nat) : Int) ∧ Below w.heap.size w wr ∧ XB wr w.heap.size x ∧ RB wr (w.heap.size + 1)) (fun _ si _ => len - (intOf si).toNat)
  case atStart => exact ⟨0, by omega, rfl, rfl, hbW, hXB, hRB⟩
  case round =>
    obtain ⟨i, hi, rfl, rfl, hbw, hxb, hrb⟩ := hrel
    have hcl := cnt_le p (L.take i)
    have hcl2 : cnt p (L.take i) ≤ 1000000 := by rw [List.length_take] at hcl; omega
    clear hcl hRB hbW hXB
    by_cases hlt : i < len
    · have hL := h.1
      obtain ⟨b, off, rfl, hB, hc⟩ := (h.below hbw).2 (by omega)
      obtain ⟨h1, h2, h3⟩ := hc i (by omega)
      obtain ⟨x0, x1, x2, x3⟩ := hxb
      have hXB' : XB wr w.heap.size x := ⟨x0, x1, x2, x3⟩
      have HXB := Lib.hid hXB'
      have hsn := take_vl (L := L) (k := i) (by omega)
      obtain ⟨v, hv⟩ : ∃ v, L.getD i v0 = v := ⟨_, rfl⟩
      rw [hv] at h1 h2 h3 hsn
      have hst : cnt p (L.take (i + 1)) = cnt p (L.take i) + if p v then 1 else 0 := by rw [hsn, cnt_snoc]
      have hpv : p v = veq v x := by rw [← HP.out]
      have heq := fun w => equal_any v x w
      rw [← hpv] at heq
      obtain ⟨u, hu⟩ : ∃ u, p v = u := ⟨_, rfl⟩
      rw [hu] at hst heq
      have HEQ := Lib.hid heq
      have HST := Lib.hid hst
      clear hv hsn hc hL hXB' hpv hu heq hst
      go_wp2_with fail
      refine (HEQ.out _).mono ?_
      rintro e w2 ⟨rfl, hb2⟩
      have hb1 := below_alloc wr (.cells #[.int .i64 v.k, .int .i64 v.n, .string v.s] 26)
      have hb3 := hb1.trans (hb2.mono hb1.size)
      have hb4 := hbw.trans (hb3.mono hbw.size)
      have hxb4 := HXB.out.step hb3
      have hrb4 := hrb.step hb3
      clear hb1 hb2 hb3
      cases u
      · go_wp2
        go_roundw
        case rel => exact ⟨i + 1, by omega, by go_num, by rw [HST.out]; rfl, hb4, hxb4, hrb4⟩
        case measure => simp [intOf]; omega
      · go_wp2
        go_roundw
        case rel => exact ⟨i + 1, by omega, by go_num, by rw [HST.out]; go_num, hb4, hxb4, hrb4⟩
        case measure => simp [intOf]; omega
    · have hall : L.take i = L := List.take_of_length_le (by rw [h.1]; omega)
      rw [hall] at hcl2 ⊢
      obtain ⟨n, hn⟩ : ∃ n, cnt p L = n := ⟨_, rfl⟩
      rw [hn] at hcl2 ⊢
      have HN := Lib.hid hn
      clear hall hn
      go_wp2_with fail
      refine (of_yes n _ (by omega)).mono ?_
      rintro e w' ⟨rfl, rfl⟩
      go_wp2_with fail
      refine (vmade_yes _ _).mono ?_
      rintro e w2 ⟨rfl, hb2⟩
      have hb3 := hbw.trans (hb2.mono hbw.size)
      obtain ⟨g0, c0, c1, c2, f0, f1, f2⟩ := hrb.step hb2
      clear hb2 hbw hrb hxb
      go_wp2
      refine bodyPost_ret (v := .agg #[.int .i64 1, .int .i64 ((n : Int) * 1000000), .string { data := #[] }]) (by simp [results, Try.results15, go_sem, c0, c1, c2]) rfl ⟨by rw [HN.out], below_fillg (by omega) hb3 _ _ _⟩
end Go.Proofs.Ytpnnjmckjipacaa
