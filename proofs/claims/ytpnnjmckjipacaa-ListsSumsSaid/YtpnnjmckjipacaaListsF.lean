/-
  lists: Index, VLookup of one column: walks. Conditions: each theorem's own.
-/
import Derived.Test.YtpnnjmckjipacaaListsE
import Derived.StillTailTactics
namespace Go.Proofs.Ytpnnjmckjipacaa
open Go.RowKit Num
set_option linter.unusedVariables false

theorem index_any (r : Nat) (a : Option Addr) (len cap : Nat) (L : List Vl) (w : World) (h : VIn w a len L) (hl : len ≤ 1000000) (hcp : len ≤ cap) (hr : r < len) :
    Calls Try.prog 19 #[.int .i64 1, .int .i64 ((r : Int) + 1), .int .i64 1, .slice a len cap] w (RetV (L.getD r v0).k (L.getD r v0).n (L.getD r v0).s w) := by
  obtain ⟨b, off, rfl, hB, hc⟩ := (h.alloc (.cells #[.int .i64 0, .int .i64 0, .string { data := #[] }] 26)).2 (by omega)
  obtain ⟨h1, h2, h3⟩ := hc r (by rw [h.1]; exact hr)
  obtain ⟨v, hv⟩ : ∃ v, L.getD r v0 = v := ⟨_, rfl⟩
  rw [hv] at h1 h2 h3 ⊢
  have hd : (len : Int).tdiv 1 = len := by simp
  have hr1 : (r : Int) + 1 - 1 = r := by omega
  have hr2 : ¬ (len : Int) < (r : Int) + 1 := by omega
  have hr3 : ¬ (r : Int) + 1 < 1 := by omega
  clear hv hc
  go_enter Try.func19, Try.ntmps19
  go_wp2
  refine bodyPost_ret (v := .agg #[.int .i64 v.k, .int .i64 v.n, .string v.s]) (by simp [results, Try.results19, go_sem]) rfl ⟨rfl, below_alloc _ _⟩

theorem vlookup_any (x : Vl) (a : Option Addr) (len cap : Nat) (L : List Vl) (w : World) (h : VIn w a len L) (hl : len ≤ 1000000) (hcp : len ≤ cap) (hr : ∃ j, j < len ∧ veq (L.getD j v0) x = true) :
    Calls Try.prog 20 #[.agg #[.int .i64 x.k, .int .i64 x.n, .string x.s], .int .i64 1, .int .i64 1, .slice a len cap] w (RetV x.k x.n x.s w) := by
  obtain ⟨W, hW, hbW, hXB, hRB⟩ := start2 w x
  have HW := Lib.hid hW
  have HR := Lib.hid hr
  clear hW hr
  go_enter Try.func20, Try.ntmps20
  go_wp2_with fail
  rw [HW.out]
  go_loopw [9] (fun si wr => ∃ i : Nat, i ≤ len ∧ si = .int .i64 (i : Int) ∧ (∀ j, j < i → veq (L.getD j v0) x = false) ∧ Below W.heap.size W wr) (fun si _ => len - (intOf si).toNat)
  case atStart => exact ⟨0, by omega, rfl, fun j hj => by omega, Below.refl _ _⟩
  case round =>
    obtain ⟨i, hi, rfl, hno, hbW2⟩ := hrel
    have HNO := Lib.hid hno
    clear hno
    have hbw := hbW.trans (hbW2.mono hbW.size)
    have hlt : i < len := by
      obtain ⟨j, hj, hjx⟩ := HR.out
      have := HNO.out j
      rcases Nat.lt_or_ge j i with h' | h'
      · rw [HNO.out j h'] at hjx; cases hjx
      · omega
    have hL := h.1
    obtain ⟨b, off, rfl, hB, hc⟩ := (h.below hbw).2 (by omega)
    obtain ⟨h1, h2, h3⟩ := hc i (by omega)
    obtain ⟨x0, x1, x2, x3⟩ := hXB.step hbW2
    obtain ⟨v, hv⟩ : ∃ v, L.getD i v0 = v := ⟨_, rfl⟩
    rw [hv] at h1 h2 h3
    have heq := fun w => equal_any v x w
    obtain ⟨u, hu⟩ : ∃ u, veq v x = u := ⟨_, rfl⟩
    rw [hu] at heq
    have HEQ := Lib.hid heq
    have HU : Hid (veq (L.getD i v0) x = u) := by show _ = _; rw [hv, hu]
    have HVU := Lib.hid hu
    have HL := Lib.hid hL
    have tc : (i : Int) + 1 ≤ len := by omega
    have ti : (i : Int) + 1 - 1 = i := by omega
    clear hc hu heq hv hL
    go_wp2_with fail
    go_still_tail 5, (by kernel_rfl)
    change wpList _ _ _ _ _ wr.drew
    have hbd : Below wr.heap.size wr wr.drew := (Below.refl _ _).drew
    obtain ⟨wd, hwd⟩ : ∃ wd, wr.drew = wd := ⟨_, rfl⟩
    rw [hwd] at hbd ⊢
    have hbdW := hbW2.trans (hbd.mono hbW2.size)
    clear hwd
    go_wp2_with fail
    refine (HEQ.out _).mono ?_
    rintro e w2 ⟨rfl, hb2'⟩
    have hb2 := hbd.trans (hb2'.mono hbd.size)
    have hb4 := hbW2.trans (hb2.mono hbW2.size)
    cases u
    · go_wp2
      go_roundw
      case rel => exact ⟨i + 1, by omega, by go_num, fun j hj => by (rcases Nat.lt_or_ge j i with hj' | hj'; exact HNO.out j hj'; obtain rfl : j = i := (by omega); exact HU.out), hb4⟩
      case measure => simp [intOf]; omega
    · have hb6 := hbW.trans (hb4.mono hbW.size)
      obtain ⟨g0, c0, c1, c2, f0, f1, f2⟩ := hRB.step hb4
      obtain ⟨hc2, hf2⟩ := bcell hb2
      have k1 := (hc2 b (off + i * 3) hB).trans h1
      have k2 := (hc2 b (off + i * 3 + 1) hB).trans h2
      have k3 := (hc2 b (off + i * 3 + 2) hB).trans h3
      have hBw : b < w2.heap.size := Nat.lt_of_lt_of_le hB hb2.size
      obtain rfl : v = x := (veq_iff v x).1 HVU.out
      clear hc2 hf2 hb4 hb2 hb2' hbd hbdW
      go_wp2
      refine bodyPost_ret (v := .agg #[.int .i64 v.k, .int .i64 v.n, .string v.s]) (by simp [results, Try.results20, go_sem, c0, c1, c2]) rfl ⟨rfl, below_fillg (by omega) hb6 _ _ _⟩
end Go.Proofs.Ytpnnjmckjipacaa
