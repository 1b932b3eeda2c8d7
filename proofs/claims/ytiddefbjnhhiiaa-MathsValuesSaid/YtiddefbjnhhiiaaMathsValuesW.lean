/-
  MathsValues: walk. Conditions: the arguments' own.
-/
import Derived.Test.YtiddefbjnhhiiaaMathsF
namespace Go.Proofs.Ytiddefbjnhhiiaa.mathsValues
open Go.RowKit Num
set_option linter.unusedVariables false
set_option linter.unusedSimpArgs false

/-- Block g begins with these strings. -/
def SB (W : World) (g : Nat) (L : List ByteArray) : Prop := g < W.heap.size ∧ ∀ j, j < L.length → W.cell? ⟨g, j, none⟩ = some (.string (L.getD j ⟨#[]⟩))
theorem SB.step {W W' : World} {g : Nat} {L : List ByteArray} (h : SB W g L) (hE : Ext W W') : SB W' g L :=
  ⟨Nat.lt_of_lt_of_le h.1 hE.size, fun j hj => ext_cell h.1 (h.2 j hj) _ hE⟩
theorem SB.new (w : World) (L : List ByteArray) (t : TypeId) : SB (w.alloc (.cells (L.map Value.string).toArray t)) w.heap.size L := by
  refine ⟨by simp, fun j hj => ?_⟩
  rw [World.cell?_alloc_new, List.getElem?_toArray, List.getElem?_map, List.getD_eq_getElem?_getD, List.getElem?_eq_getElem hj]
  rfl
theorem right_r {k n : Int} (h : vr k n { data := #[] } = true ∧ Mant n) (w : World) : Calls Try.prog 19 #[.agg #[.int .i64 k, .int .i64 n, .string { data := #[] }]] w fun e w' => e = .returned (.bool true) ∧ Ext w w' := right_call k n h.2 h.1 w

set_option maxHeartbeats 1600000 in
set_option maxRecDepth 100000 in
theorem walk (s : ByteArray) (a b : Int) (w : World) (ws : s.size ≤ maxLen) (wa : (Lit.int .i64 a).wf = true) (wb : (Lit.int .i64 b).wf = true) :
    Calls Try.prog 8 #[.string s, .int .i64 a, .int .i64 b] w fun e w' => e = .returned (.bool true) ∧ Below w.heap.size w w' := by
  have ha := bounds_i64 wa
  have hb := bounds_i64 wb
  clear wa wb
  obtain ⟨x, hx⟩ : ∃ x, rightV a = x := ⟨_, rfl⟩
  obtain ⟨y, hy⟩ : ∃ y, rightV b = y := ⟨_, rfl⟩
  have hxm : Mant x := by rw [← hx]; exact rightV_mant ha
  have hym : Mant y := by rw [← hy]; exact rightV_mant hb
  have hr1 := fun w => right_any a w
  have hr2 := fun w => right_any b w
  rw [hx] at hr1
  rw [hy] at hr2
  have HR1 := Lib.hid hr1
  have HR2 := Lib.hid hr2
  have HXM := Lib.hid hxm
  have HYM := Lib.hid hym
  clear hr1 hr2 hx hy hxm hym
  unfold maxLen at ws
  go_enter Try.func8, Try.ntmps8
  go_wp2_with fail
  refine (fit_any _).mono ?_
  rintro e w1 ⟨rfl, hE1⟩
  by_cases h50 : (50 : Int) < (s.size : Int)
  · go_wp2_with fail
    go_ret
    exact ⟨rfl, hE1⟩
  go_wp2_with fail
  refine (HR1.out _).mono ?_
  rintro e w2 ⟨rfl, hE2'⟩
  have hE2 := hE1.trans hE2'
  go_wp2_with fail
  refine (HR2.out _).mono ?_
  rintro e w3 ⟨rfl, hE3'⟩
  have hE3 := hE2.trans hE3'
  clear hE1 hE2' hE2 hE3'
  go_wp2_with fail
  have hL1 : SB (w3.alloc (.cells #[.string s, .string { data := #[82, 79, 85, 78, 68] }, .string { data := #[77, 79, 68] }, .string { data := #[80, 79, 87, 69, 82] }, .string { data := #[81, 85, 79, 84, 73, 69, 78, 84] }, .string { data := #[71, 67, 68] }, .string { data := #[76, 67, 77] }] 9)) w3.heap.size [s, { data := #[82, 79, 85, 78, 68] }, { data := #[77, 79, 68] }, { data := #[80, 79, 87, 69, 82] }, { data := #[81, 85, 79, 84, 73, 69, 78, 84] }, { data := #[71, 67, 68] }, { data := #[76, 67, 77] }] := SB.new w3 [s, { data := #[82, 79, 85, 78, 68] }, { data := #[77, 79, 68] }, { data := #[80, 79, 87, 69, 82] }, { data := #[81, 85, 79, 84, 73, 69, 78, 84] }, { data := #[71, 67, 68] }, { data := #[76, 67, 77] }] _
  obtain ⟨L1, hl1⟩ : ∃ L, [s, { data := #[82, 79, 85, 78, 68] }, { data := #[77, 79, 68] }, { data := #[80, 79, 87, 69, 82] }, { data := #[81, 85, 79, 84, 73, 69, 78, 84] }, { data := #[71, 67, 68] }, { data := #[76, 67, 77] }] = L := ⟨_, rfl⟩
  rw [hl1] at hL1
  have hll1 : L1.length = 7 := by rw [← hl1]; rfl
  clear hl1
  go_loopw [23] (fun si wr => ∃ i : Nat, i ≤ 7 ∧ si = .int .i64 (i : Int) ∧ SB wr w3.heap.size L1 ∧ Ext w3 wr) (fun si _ => 7 - (intOf si).toNat)
  case atStart => exact ⟨0, by omega, rfl, hL1, below_alloc _ _⟩
  case round =>
    obtain ⟨i, hi, rfl, hS, hE⟩ := hrel
    by_cases hlt : i < 7
    · have hc := hS.2 i (by omega)
      obtain ⟨nm, hnm⟩ : ∃ nm, L1.getD i ⟨#[]⟩ = nm := ⟨_, rfl⟩
      rw [hnm] at hc
      have HS := Lib.hid hS
      have hi0 : (0 : Int) ≤ i := by omega
      have hi7 : (i : Int) < 7 := by omega
      clear hnm hS
      go_wp2_with fail
      refine (two_right nm x y _ HXM.out HYM.out).mono ?_
      rintro e w5 ⟨k, n, hv, rfl, hE5⟩
      have HV := Lib.hid hv
      clear hv
      go_wp2_with fail
      refine (right_r HV.out _).mono ?_
      rintro e w6 ⟨rfl, hE6⟩
      have hE56 := Ext.trans hE5 hE6
      go_wp2_with fail
      go_roundw
      case rel => exact ⟨i + 1, by omega, by go_num, HS.out.step hE56, hE.trans hE56⟩
      case measure => simp [intOf]; omega
    · obtain rfl : i = 7 := by omega
      have hE4 := hE3.trans hE
      clear hE hS hlt hi hL1 hll1
      go_wp2_with fail
      have hL2 : SB (wr.alloc (.cells #[.string s, .string { data := #[65, 66, 83] }, .string { data := #[83, 73, 71, 78] }, .string { data := #[73, 78, 84] }, .string { data := #[84, 82, 85, 78, 67] }, .string { data := #[69, 86, 69, 78] }, .string { data := #[79, 68, 68] }, .string { data := #[70, 65, 67, 84] }] 9)) wr.heap.size [s, { data := #[65, 66, 83] }, { data := #[83, 73, 71, 78] }, { data := #[73, 78, 84] }, { data := #[84, 82, 85, 78, 67] }, { data := #[69, 86, 69, 78] }, { data := #[79, 68, 68] }, { data := #[70, 65, 67, 84] }] := SB.new wr [s, { data := #[65, 66, 83] }, { data := #[83, 73, 71, 78] }, { data := #[73, 78, 84] }, { data := #[84, 82, 85, 78, 67] }, { data := #[69, 86, 69, 78] }, { data := #[79, 68, 68] }, { data := #[70, 65, 67, 84] }] _
      obtain ⟨L2, hl2⟩ : ∃ L, [s, { data := #[65, 66, 83] }, { data := #[83, 73, 71, 78] }, { data := #[73, 78, 84] }, { data := #[84, 82, 85, 78, 67] }, { data := #[69, 86, 69, 78] }, { data := #[79, 68, 68] }, { data := #[70, 65, 67, 84] }] = L := ⟨_, rfl⟩
      rw [hl2] at hL2
      have hll2 : L2.length = 8 := by rw [← hl2]; rfl
      clear hl2
      go_loopw [37] (fun si wv => ∃ i : Nat, i ≤ 8 ∧ si = .int .i64 (i : Int) ∧ SB wv wr.heap.size L2 ∧ Ext wr wv) (fun si _ => 8 - (intOf si).toNat)
      case atStart => exact ⟨0, by omega, rfl, hL2, below_alloc _ _⟩
      case round =>
        obtain ⟨i, hi, rfl, hS, hE⟩ := hrel
        by_cases hlt : i < 8
        · have hc := hS.2 i (by omega)
          obtain ⟨nm, hnm⟩ : ∃ nm, L2.getD i ⟨#[]⟩ = nm := ⟨_, rfl⟩
          rw [hnm] at hc
          have HS := Lib.hid hS
          have hi0 : (0 : Int) ≤ i := by omega
          have hi7 : (i : Int) < 8 := by omega
          clear hnm hS
          go_wp2_with fail
          refine (one_right nm x _ HXM.out).mono ?_
          rintro e w5 ⟨k, n, hv, rfl, hE5⟩
          have HV := Lib.hid hv
          clear hv
          go_wp2_with fail
          refine (right_r HV.out _).mono ?_
          rintro e w6 ⟨rfl, hE6⟩
          have hE56 := Ext.trans hE5 hE6
          go_wp2_with fail
          go_roundw
          case rel => ((repeat apply Exists.intro); exact ⟨⟨i + 1, by omega, (by go_num : Value.int .i64 ((i : Int) + 1) = Value.int .i64 ((i + 1 : Nat) : Int)), HS.out.step hE56, hE.trans hE56⟩, rfl⟩)
          case measure => simp [intOf]; omega
        · obtain rfl : i = 8 := by omega
          go_wp2_with fail
          go_ret
          exact ⟨rfl, hE4.trans hE⟩
end Go.Proofs.Ytiddefbjnhhiiaa.mathsValues
