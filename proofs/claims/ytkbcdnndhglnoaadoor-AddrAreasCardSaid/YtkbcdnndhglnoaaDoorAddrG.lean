/-
  addr: Cells, and what goes over an area's cells. Conditions: each theorem's own.
-/
import Derived.RangeFuncNested
import Derived.RangeFuncBound
import Derived.RangeFuncCalls
import Derived.RangeFuncLeaves
import Derived.Shelf.Abstract
import Derived.WalkKit
import Derived.OwnWalkIn
import Derived.TacticsInMore
import Derived.LoopNIn
import Derived.LoopIn
import Derived.Test.YtkbcdnndhglnoaaDoorAddrF
namespace Go.Proofs.YtkbcdnndhglnoaaDoor
open Go.RowKit
set_option linter.unusedVariables false
set_option linter.unusedSimpArgs false
attribute [local go_sem] Oper.semAt_some

theorem cells_any (s c r s' c' r' : Int) (w : World) :
    Calls Tryd.prog 17 #[ceV s c r, ceV s' c' r'] w fun e w' => e = .returned (.func (.func 22) #[] #[.pointer (some ⟨w.heap.size, 0, none⟩), .pointer (some ⟨w.heap.size + 1, 0, none⟩)]) ∧
      w' = (w.alloc (.cells #[.int .i64 s, .int .i64 c, .int .i64 r] 23)).alloc (.cells #[.int .i64 s', .int .i64 c', .int .i64 r'] 23) := by
  go_enter Tryd.func17, Tryd.ntmps17
  go_wp2_with fail
  go_ret
  exact ⟨rfl, rfl⟩
theorem grown_of_ext {a b : World} (h : Ext a b) : a.grownBy b none := ⟨h.os, h.tape, h.output, h.size, fun k hk _ => h.block k hk⟩
/-- What lay from n on as cells lies as it lay. -/
def KpN (n : Nat) (W W' : World) : Prop := ∀ (k : Nat) (o : Obj), n ≤ k → W.heap[k]? = some o → o.isCells = true → W'.heap[k]? = some o
theorem KpN.trans {n : Nat} {A B C : World} (h : KpN n A B) (k : KpN n B C) : KpN n A C := fun i o hi ho hc => k i o hi (h i o hi ho hc) hc
theorem KpN.refl (n : Nat) (W : World) : KpN n W W := fun _ _ _ h _ => h
theorem KpN.put {n : Nat} (W : World) (l : Nat) (o o' : Obj) (h : W.heap[l]? = some o) (hc : o.isCells = false) : KpN n W (W.putObj l o') := fun k o1 hk h1 hc1 => by
  have hne : k ≠ l := by rintro rfl; rw [h] at h1; cases h1; rw [hc] at hc1; cases hc1
  rw [World.putObj_heap_other hne, h1]
theorem KpN.alloc {n : Nat} {W W' : World} (h : KpN n W W') (o : Obj) : KpN n W (W'.alloc o) := fun k o1 hk h1 hc => by
  have h2 := h k o1 hk h1 hc
  rw [Below.heap_alloc W' o k (Array.getElem?_eq_some_iff.1 h2).1, h2]
theorem KpN.set {n : Nat} {W W' : World} (h : KpN n W W') (p : Addr) (v : Value) (hp : p.block < n) : KpN n W (W'.setCell p v) := fun k o1 hk h1 hc => by
  rw [Below.heap_setCell W' p v k (by omega), h k o1 hk h1 hc]
/-- The area's cells, row by row. -/
def aW (c c' : Nat) : Nat := max c c' - min c c' + 1
def aN (s s' : Int) (c c' r r' : Nat) : Nat := if s = s' then aW r r' * aW c c' else 0
def aC (s : Int) (c c' r r' : Nat) (i : Nat) : Value := ceV s ((min c c' + i % aW c c' : Nat) : Int) ((min r r' + i / aW c c' : Nat) : Int)
def up (N k : Nat) : List (Fin N) := (List.finRange N).take k
theorem up_succ {N k : Nat} (h : k < N) : up N (k + 1) = up N k ++ [⟨k, h⟩] := by
  unfold up
  rw [List.take_add_one]
  congr 1
  rw [List.getElem?_eq_getElem (by simpa using h)]
  simp
theorem up_length {N k : Nat} (h : k ≤ N) : (up N k).length = k := by simp [up]; omega
theorem up_all (N : Nat) : up N N = List.finRange N := by unfold up; exact List.take_of_length_le (by simp)
theorem up_prefix (N k : Nat) : up N k <+: List.finRange N := List.take_prefix _ _
set_option maxHeartbeats 4000000 in
set_option maxRecDepth 100000 in
theorem iter_in (n l A B : Nat) (n₀ : Nat) (s s' : Int) (c c' r r' : Nat) (hn : 1 ≤ n) (hc : c < 1000) (hc' : c' < 1000) (hr : r < 1000) (hr' : r' < 1000) (J Jx : List (Fin (aN s s' c c' r r')) → World → Prop)
    (hY : ∀ pre (x : Fin (aN s s' c c' r r')) W, J pre W → pre.length < aN s s' c c' r r' → YieldAt Fence.wide (n - 1) Tryd.prog l #[aC s c c' r r' x] W fun e W' =>
      (e = .returned (.bool true) ∧ J (pre ++ [x]) W' ∧ KpN n₀ W W') ∨ (e = .returned (.bool false) ∧ Jx (pre ++ [x]) W'))
    (W : World) (hn₀ : n₀ ≤ W.heap.size) (hJ : AbidesFrom W.heap.size J)
    (hA : W.heap[A]? = some (.cells #[.int .i64 s, .int .i64 c, .int .i64 r] 23 (0, 0))) (hB : W.heap[B]? = some (.cells #[.int .i64 s', .int .i64 c', .int .i64 r'] 23 (0, 0))) (h0 : J [] W) :
    CallsIn Fence.wide n Tryd.prog 22 #[.func (.yield l) #[] #[], .pointer (some ⟨A, 0, none⟩), .pointer (some ⟨B, 0, none⟩)] W fun e W' => (∃ v, e = .returned v) ∧
      ((∃ xs, xs = List.finRange (aN s s' c c' r r') ∧ J xs W') ∨ (∃ pre, pre <+: List.finRange (aN s s' c c' r r') ∧ Jx pre W')) := by
  have b1 := ext_blk hA
  have b2 := ext_blk hB
  have l1 := ext_lt (blk_lt hA)
  have l2 := ext_lt (blk_lt hB)
  have hR := Ext.refl W
  have HJ := Lib.hid hJ
  have H0 := Lib.hid h0
  have HY := Lib.hid hY
  have HN := Lib.hid hn₀
  clear hJ h0 hY hA hB hn₀
  refine callsIn_of_wp Tryd.func22 rfl trivial ?_ rfl
  simp only [Tryd.ntmps22, List.size_toArray, List.length_cons, List.length_nil, Nat.reduceAdd, Nat.reduceSub, Array.replicate_succ, Array.replicate_zero, List.push_toArray, List.append_toArray, List.nil_append, List.cons_append]
  refine wpIn_wide.2 ?_
  go_wp2_with fail
  refine (order_any s c r s' c' r' _).mono ?_
  rintro e w1 ⟨rfl, hE1⟩
  by_cases hs : s = s'
  · subst hs
    obtain ⟨c0, hc0⟩ : ∃ k, min c c' = k := ⟨_, rfl⟩
    obtain ⟨c1, hc1⟩ : ∃ k, max c c' = k := ⟨_, rfl⟩
    obtain ⟨r0, hr0⟩ : ∃ k, min r r' = k := ⟨_, rfl⟩
    obtain ⟨r1, hr1⟩ : ∃ k, max r r' = k := ⟨_, rfl⟩
    obtain ⟨wd, hwd⟩ : ∃ k, c1 - c0 + 1 = k := ⟨_, rfl⟩
    obtain ⟨N, hN⟩ : ∃ N, aN s s c c' r r' = N := ⟨_, rfl⟩
    have hN' : N = (r1 - r0 + 1) * wd := by rw [← hN, ← hwd, ← hc0, ← hc1, ← hr0, ← hr1]; simp [aN, aW]
    have HA : Hid (∀ kc kr, c0 ≤ kc → kc ≤ c1 → r0 ≤ kr → kr ≤ r1 → (kr - r0) * wd + (kc - c0) < N ∧ aC s c c' r r' ((kr - r0) * wd + (kc - c0)) = ceV s (kc : Int) (kr : Int)) := Lib.hid (by
      intro kc kr h1 h2 h3 h4
      have hlt : kc - c0 < wd := by omega
      refine ⟨?_, ?_⟩
      · rw [hN']
        calc (kr - r0) * wd + (kc - c0) < (kr - r0) * wd + wd := by omega
          _ = (kr - r0 + 1) * wd := by rw [Nat.add_mul, Nat.one_mul]
          _ ≤ (r1 - r0 + 1) * wd := Nat.mul_le_mul_right _ (by omega)
      · unfold aC
        have e1 : aW c c' = wd := by unfold aW; omega
        rw [e1, Nat.mul_comm (kr - r0) wd, Nat.mul_add_mod, Nat.mod_eq_of_lt hlt, Nat.mul_add_div (by omega), Nat.div_eq_of_lt hlt, hc0, hr0, show c0 + (kc - c0) = kc by omega, show r0 + (kr - r0 + 0) = kr by omega])
    have HAll : Hid ((r1 + 1 - r0) * wd = N) := Lib.hid (by rw [hN']; congr 1; omega)
    have HNx : Hid (∀ kr, r0 ≤ kr → (kr - r0) * wd + (c1 + 1 - c0) = (kr + 1 - r0) * wd) := Lib.hid (by
      intro kr h
      rw [show c1 + 1 - c0 = wd by omega, show kr + 1 - r0 = (kr - r0) + 1 by omega, Nat.add_mul, Nat.one_mul])
    rw [show ordV s c r s c' r' = .tuple #[ceV s (c0 : Int) (r0 : Int), ceV s (c1 : Int) (r1 : Int), .bool true] from by
      rw [ordV, if_pos rfl, show min (c : Int) c' = (c0 : Int) by omega, show min (r : Int) r' = (r0 : Int) by omega, show max (c : Int) c' = (c1 : Int) by omega, show max (r : Int) r' = (r1 : Int) by omega]]
    have hbd : c0 ≤ c1 ∧ c1 < 1000 ∧ r0 ≤ r1 ∧ r1 < 1000 := by omega
    obtain ⟨hb1, hb2, hb3, hb4⟩ := hbd
    generalize aC s c c' r r' = f at *
    generalize aN s s c c' r r' = N' at *
    subst hN
    clear hN' hc0 hc1 hr0 hr1 hwd hc hc' hr hr' b1 b2 l1 l2 hR
    obtain ⟨g, hg⟩ : ∃ g, w1.heap.size = g := ⟨_, rfl⟩
    obtain ⟨W2, hW2, hE2, hG2, hL2, hS2⟩ := new_blk w1 #[.int .i64 s, .int .i64 (c0 : Int), .int .i64 (r0 : Int)] 23
    obtain ⟨W3, hW3, hE3, hG3, hL3, hS3⟩ := new_blk W2 #[.int .i64 s, .int .i64 (c1 : Int), .int .i64 (r1 : Int)] 23
    rw [hS2, hg] at hG3
    rw [hg] at hG2
    have HX := Lib.hid (hE3.blk hG2)
    have HY5 := Lib.hid hG3
    have HW2 := Lib.hid hW2
    have HW3 := Lib.hid hW3
    have HG := Lib.hid hg
    have HN4 : Hid (n₀ ≤ g) := Lib.hid (by have := HN.out; have := hE1.size; omega)
    have HJ3 := Lib.hid (HJ.out [] W W3 none H0.out (grown_of_ext (hE1.trans (hE2.trans hE3))) (fun r e => by cases e))
    clear hW2 hE2 hG2 hL2 hS2 hW3 hE3 hG3 hL3 hS3 hg hE1 HN HJ H0
    go_upto_region 1 with (fail)
    rw [HW2.out, HW3.out, HG.out]
    have c41 := cell_of_row W3 g 2 _ _ _ HX.out
    simp only [List.getElem?_toArray, List.getElem?_cons_zero, List.getElem?_cons_succ] at c41
    clear HW2 HW3 HG
    go_wp2_with fail
    refine (wpIn_wide (n := n)).1 ?_
    gi_loopw [7] (fun p wr => ∃ kr : Nat, r0 ≤ kr ∧ kr ≤ r1 + 1 ∧ p = .int .i64 (kr : Int) ∧ J (up N' ((kr - r0) * wd)) wr ∧ wr.heap[g]? = some (.cells #[.int .i64 s, .int .i64 (c0 : Int), .int .i64 (r0 : Int)] 23 (0, 0)) ∧ wr.heap[g + 1]? = some (.cells #[.int .i64 s, .int .i64 (c1 : Int), .int .i64 (r1 : Int)] 23 (0, 0)))
      (fun p _ => r1 + 1 - (intOf p).toNat)
    case atStart =>
      refine ⟨r0, Nat.le_refl _, by omega, rfl, ?_, HX.out, HY5.out⟩
      have := HJ3.out
      rwa [Nat.sub_self, Nat.zero_mul]
    case round =>
      clear HX HY5 HJ3 c41
      obtain ⟨kr, hk1, hk2, rfl, hJ, hX, hY5⟩ := hrel
      have c40 := cell_of_row wr g 0 _ _ _ hX
      have c41 := cell_of_row wr g 1 _ _ _ hX
      have c51 := cell_of_row wr (g + 1) 1 _ _ _ hY5
      have c52 := cell_of_row wr (g + 1) 2 _ _ _ hY5
      simp only [List.getElem?_toArray, List.getElem?_cons_zero, List.getElem?_cons_succ] at c40 c41 c51 c52
      have HX := Lib.hid hX
      have HY5 := Lib.hid hY5
      have HJr := Lib.hid hJ
      clear hX hY5 hJ
      by_cases hlt : kr ≤ r1
      · have hle : (kr : Int) ≤ (r1 : Int) := by omega
        gi_wp2
        gi_loopw [8] (fun p wr => ∃ kc : Nat, c0 ≤ kc ∧ kc ≤ c1 + 1 ∧ p = .int .i64 (kc : Int) ∧ J (up N' ((kr - r0) * wd + (kc - c0))) wr ∧ wr.heap[g]? = some (.cells #[.int .i64 s, .int .i64 (c0 : Int), .int .i64 (r0 : Int)] 23 (0, 0)) ∧ wr.heap[g + 1]? = some (.cells #[.int .i64 s, .int .i64 (c1 : Int), .int .i64 (r1 : Int)] 23 (0, 0)))
          (fun p _ => c1 + 1 - (intOf p).toNat)
        case atStart =>
          refine ⟨c0, Nat.le_refl _, by omega, rfl, ?_, HX.out, HY5.out⟩
          have := HJr.out
          rwa [Nat.sub_self, Nat.add_zero]
        case round =>
          clear HX HY5 HJr c40 c41 c51 c52
          obtain ⟨kc, hc1', hc2', rfl, hJ, hX, hY5⟩ := hrel
          have c40 := cell_of_row wr g 0 _ _ _ hX
          have c51 := cell_of_row wr (g + 1) 1 _ _ _ hY5
          simp only [List.getElem?_toArray, List.getElem?_cons_zero, List.getElem?_cons_succ] at c40 c51
          by_cases hlc : kc ≤ c1
          · have hlec : (kc : Int) ≤ (c1 : Int) := by omega
            obtain ⟨hi, hf⟩ := HA.out kc kr hc1' hlc hk1 hlt
            obtain ⟨i, hii⟩ : ∃ i, (kr - r0) * wd + (kc - c0) = i := ⟨_, rfl⟩
            rw [hii] at hi hf hJ
            obtain ⟨fn, tmps, assign, body, hy, hR⟩ := HY.out _ ⟨i, hi⟩ wr hJ (by rw [up_length (by omega)]; exact hi)
            rw [hf] at hy
            have HX := Lib.hid hX
            have HY5 := Lib.hid hY5
            have Hi := Lib.hid hii
            have Hlt := Lib.hid hi
            have HRd := Lib.hid hR
            clear hX hY5 hii hR hJ hf
            gi_wp2
            refine HRd.out.mono ?_
            clear HRd
            rintro e W3 (⟨rfl, hJ3, hk3⟩ | ⟨rfl, hJx3⟩)
            · have HJ3 := Lib.hid hJ3
              have HK3 := Lib.hid hk3
              clear hJ3 hk3
              gi_wp2
              go_roundw
              case rel =>
                refine ⟨kc + 1, by omega, by omega, by simp, ?_, HK3.out g _ HN4.out HX.out rfl, HK3.out (g + 1) _ (Nat.le_succ_of_le HN4.out) HY5.out rfl⟩
                have := HJ3.out
                rw [← up_succ Hlt.out] at this
                rwa [show (kr - r0) * wd + (kc + 1 - c0) = i + 1 by rw [← Hi.out]; omega]
              case measure => simp [intOf]; omega
            · gi_wp2
              refine bodyPost_ret (results_none rfl _ _ _) rfl ?_
              exact ⟨⟨_, rfl⟩, .inr ⟨_, by rw [← up_succ Hlt.out]; exact up_prefix _ _, hJx3⟩⟩
          · have hlec : (c1 : Int) < (kc : Int) := by omega
            have HX := Lib.hid hX
            have HY5 := Lib.hid hY5
            have HJr := Lib.hid hJ
            clear hX hY5 hJ
            gi_wp2
            go_roundw
            case rel =>
              refine ⟨kr + 1, by omega, by omega, by simp, ?_, HX.out, HY5.out⟩
              have := HJr.out
              obtain rfl : kc = c1 + 1 := by omega
              rwa [HNx.out kr hk1] at this
            case measure => simp [intOf]; omega
      · have hle : (r1 : Int) < (kr : Int) := by omega
        gi_wp2
        go_end0
        obtain rfl : kr = r1 + 1 := by omega
        have hj := HJr.out
        rw [HAll.out, up_all] at hj
        exact ⟨⟨_, rfl⟩, .inl ⟨_, rfl, hj⟩⟩
  · rw [show ordV s c r s' c' r' = .tuple #[ceV s c r, ceV s' c' r', .bool false] from if_neg hs]
    go_wp2_with fail
    refine bodyPost_ret (results_none rfl _ _ _) rfl ⟨⟨_, rfl⟩, .inl ⟨[], (List.eq_nil_of_length_eq_zero (by simp [aN, hs])).symm, HJ.out [] W _ none H0.out (grown_of_ext (ext_alloc (ext_alloc hE1 _) _)) (fun r e => by cases e)⟩⟩
/-- addr.Cells's value goes over the area's cells. -/
theorem cells_stops (n A B : Nat) (s s' : Int) (c c' r r' : Nat) (hn : 1 ≤ n) (hc : c < 1000) (hc' : c' < 1000) (hr : r < 1000) (hr' : r' < 1000) (w : World)
    (hA : w.heap[A]? = some (.cells #[.int .i64 s, .int .i64 c, .int .i64 r] 23 (0, 0))) (hB : w.heap[B]? = some (.cells #[.int .i64 s', .int .i64 c', .int .i64 r'] 23 (0, 0))) :
    SeqStopsK Fence.wide n Tryd.prog 22 #[.pointer (some ⟨A, 0, none⟩), .pointer (some ⟨B, 0, none⟩)] (fun x : Fin (aN s s' c c' r r') => #[aC s c c' r r' x]) (KpN w.heap.size) (fun xs => xs = List.finRange _) (fun pre => pre <+: List.finRange _) (aN s s' c c' r r') w :=
  fun l J Jx W hW hJ hJx hY h0 => iter_in n l A B w.heap.size s s' c c' r r' hn hc hc' hr hr' J Jx hY W hW.size hJ ((hW.block A (blk_lt hA)).trans hA) ((hW.block B (blk_lt hB)).trans hB) h0
/-- What lay as cells lies as it lay, block g apart. -/
def KeptC (gs : List Nat) (W0 W : World) : Prop := ∀ (k : Nat) (o : Obj), W0.heap[k]? = some o → o.isCells = true → k ∉ gs → W.heap[k]? = some o
theorem KeptC.refl (gs : List Nat) (W : World) : KeptC gs W W := fun _ _ h _ _ => h
theorem KeptC.own {β : Type} (gs : List Nat) (W0 : World) : Own (fun (_ : β) W => KeptC gs W0 W) := fun _ A B row h hg hr k o h0 hc hk => by
  have h1 := h k o h0 hc hk
  rw [hg.block k (Array.getElem?_eq_some_iff.1 h1).1 (fun e => ?_), h1]
  obtain ⟨o', ho', hc'⟩ := hr k e.symm
  rw [h1] at ho'; cases ho'; rw [hc] at hc'; cases hc'
theorem KeptC.set {gs : List Nat} {W0 W : World} (h : KeptC gs W0 W) (p : Addr) (v : Value) (hp : p.block ∈ gs) : KeptC gs W0 (W.setCell p v) := fun k o h0 hc hk => by
  rw [Below.heap_setCell W p v k (fun e => hk (e ▸ hp)), h k o h0 hc hk]
theorem KeptC.alloc {gs : List Nat} {W0 W : World} (h : KeptC gs W0 W) (o : Obj) : KeptC gs W0 (W.alloc o) := fun k o1 h0 hc hk => by
  have h2 := h k o1 h0 hc hk
  rw [Below.heap_alloc W o k (Array.getElem?_eq_some_iff.1 h2).1, h2]
theorem heap_own {β : Type} (g : Nat) (f : β → Array Value) (t : TypeId) : Own (fun s W => W.heap[g]? = some (.cells (f s) t (0, 0))) := fun s A B row h hg hr => by
  replace h : A.heap[g]? = _ := h
  show B.heap[g]? = _
  rw [hg.block g (Array.getElem?_eq_some_iff.1 h).1 (fun e => ?_), h]
  obtain ⟨o', ho', hc'⟩ := hr g e.symm
  rw [h] at ho'; cases ho'; cases hc'
section
variable {n : Nat} {P : Program} {α : Type} {g : Operand} {p : Tmp} {assign body : Code} {Q : Exit → Act → World → Prop} {a : Act} {w : World}
/-- A loop over a function whose variable, if it has one, lies in its slot. -/
theorem range_plain (h1 : 1 ≤ n) {gf : Nat} {lb : Array Value} (hg : a.eval g = .func (.func gf) #[] lb) (eg : ∀ args w, (callFunc gf args).run P w = .ok (.enter gf args) w)
    {enc : α → Value} {S Sp : List α → Prop} {N : Nat} (hseq : SeqStopsK Fence.wide (n - 1) P gf lb (fun x => #[enc x]) (KpN w.heap.size) S Sp N w)
    (I : List α → World → Prop) (Ix : Code → List α → World → Prop) (hI : OwnFrom w.heap.size I) (hIx : ∀ c, OwnFrom w.heap.size (Ix c)) (h0 : I [] w)
    (hassign : ∀ (l : Nat) (x : α) (W : World) (K : Act → World → Prop), K { tmps := a.tmps.setIfInBounds p (enc x), defers := [] } W → assign.wpIn (Fence.wide.inRound l) (n - 1 - 1) P (Exit.then K (fun _ _ _ => False)) { tmps := a.tmps.setIfInBounds p (enc x), defers := [] } W)
    (hbody : ∀ (l : Nat) (pre : List α) (x : α) (W : World), I pre W → pre.length < N → body.wpIn (Fence.wide.inRound l) (n - 1 - 1) P (ownPostG w.heap.size (KpN w.heap.size) I Ix (pre ++ [x]) W) { tmps := a.tmps.setIfInBounds p (enc x), defers := [] } W)
    (hdone : ∀ (D : Nat) (xs : List α) (W : World), w.heap.size ≤ D → S xs → I xs W → W.heap[D]? = some (.deferred (some [])) → Q .normal { a with defers := { target := .collected D, args := #[] } :: a.defers } W)
    (hstop : ∀ (D : Nat) (c : Code) (pre : List α) (W : World), w.heap.size ≤ D → Sp pre → Ix c pre W → W.heap[D]? = some (.deferred (some [])) → c.wpIn Fence.wide n P Q { a with defers := { target := .collected D, args := #[] } :: a.defers } W) :
    (Code.rangeFunc g #[p] assign body).wpIn Fence.wide n P Q a w :=
  wpIn_rangeFunc_ownH rfl h1 hg trivial eg hseq (fun h k => h.trans k) (fun W l o o' _ h hc _ => KpN.put W l o o' h hc) (Below.refl _ _) (fun _ => rfl) I Ix hI hIx h0
    (fun x a' _ => a' = { tmps := a.tmps.setIfInBounds p (enc x), defers := [] }) (fun _ _ _ _ _ _ hs _ _ => hs)
    (fun l pre x W K hi hK => by
      have := hassign l x W K (hK _ _ (KeepsFrom.refl _ _) (KpN.refl _ _) hi rfl)
      simpa using this)
    (fun l pre x a' W _ _ hi ha hl => by subst ha; exact hbody l pre x W hi hl) hdone hstop
/-- .. whose variable lies in a box of each round's own. -/
theorem range_boxed (bx : Tmp) (h1 : 1 ≤ n) {gf : Nat} {lb : Array Value} (hg : a.eval g = .func (.func gf) #[] lb) (eg : ∀ args w, (callFunc gf args).run P w = .ok (.enter gf args) w)
    {enc : α → Value} {S Sp : List α → Prop} {N : Nat} (hseq : SeqStopsK Fence.wide (n - 1) P gf lb (fun x => #[enc x]) (KpN w.heap.size) S Sp N w)
    (I : List α → World → Prop) (Ix : Code → List α → World → Prop) (hI : OwnFrom w.heap.size I) (hIx : ∀ c, OwnFrom w.heap.size (Ix c)) (h0 : I [] w) (Z : α → Nat → World → Prop) (hZ : ∀ x B, OwnFrom w.heap.size (fun (_ : Unit) W => Z x B W))
    (hassign : ∀ (l : Nat) (pre : List α) (x : α) (W : World) (K : Act → World → Prop), I pre W →
      (∀ B W', KeepsFrom w.heap.size W W' → KpN w.heap.size W W' → I pre W' → Z x B W' → K { tmps := (a.tmps.setIfInBounds p (enc x)).setIfInBounds bx (.pointer (some ⟨B, 0, none⟩)), defers := [] } W') →
      assign.wpIn (Fence.wide.inRound l) (n - 1 - 1) P (Exit.then K (fun _ _ _ => False)) { tmps := a.tmps.setIfInBounds p (enc x), defers := [] } W)
    (hbody : ∀ (l : Nat) (pre : List α) (x : α) (B : Nat) (W : World), I pre W → Z x B W → pre.length < N → body.wpIn (Fence.wide.inRound l) (n - 1 - 1) P (ownPostG w.heap.size (KpN w.heap.size) I Ix (pre ++ [x]) W) { tmps := (a.tmps.setIfInBounds p (enc x)).setIfInBounds bx (.pointer (some ⟨B, 0, none⟩)), defers := [] } W)
    (hdone : ∀ (D : Nat) (xs : List α) (W : World), w.heap.size ≤ D → S xs → I xs W → W.heap[D]? = some (.deferred (some [])) → Q .normal { a with defers := { target := .collected D, args := #[] } :: a.defers } W)
    (hstop : ∀ (D : Nat) (c : Code) (pre : List α) (W : World), w.heap.size ≤ D → Sp pre → Ix c pre W → W.heap[D]? = some (.deferred (some [])) → c.wpIn Fence.wide n P Q { a with defers := { target := .collected D, args := #[] } :: a.defers } W) :
    (Code.rangeFunc g #[p] assign body).wpIn Fence.wide n P Q a w :=
  wpIn_rangeFunc_ownH rfl h1 hg trivial eg hseq (fun h k => h.trans k) (fun W l o o' _ h hc _ => KpN.put W l o o' h hc) (Below.refl _ _) (fun _ => rfl) I Ix hI hIx h0
    (fun x a' W => ∃ B, Z x B W ∧ a' = { tmps := (a.tmps.setIfInBounds p (enc x)).setIfInBounds bx (.pointer (some ⟨B, 0, none⟩)), defers := [] })
    (fun x a' _ A B row hs hg hr => by obtain ⟨Bx, h, e⟩ := hs; exact ⟨Bx, hZ x Bx () A B row h hg hr, e⟩)
    (fun l pre x W K hi hK => by
      have := hassign l pre x W K hi (fun B W' h2 h3 h4 h5 => hK _ _ h2 h3 h4 ⟨B, h5, rfl⟩)
      simpa using this)
    (fun l pre x a' W _ _ hi ha hl => by obtain ⟨Bx, hz, rfl⟩ := ha; exact hbody l pre x Bx W hi hz hl) hdone hstop
end
theorem ext_put {a w : World} {l : Nat} {o : Obj} (h : Ext a w) (hl : a.heap.size ≤ l) : Ext a (w.putObj l o) :=
  ⟨h.os, h.tape, h.output, by simpa using h.size, fun k hk => (World.putObj_heap_other (by omega)).trans (h.block k hk)⟩
/-- A function's one result lies in a box: the function is left. -/
theorem leave_bool {n : Nat} {P : Program} {fn : Func} {tmps : Array Value} {R : Ending → World → Prop} {W : World} {g t : Nat} {tb : TypeId} {b : Bool} (hres : fn.results = #[.cell t tb]) (ht : tmps.getD t undef = .pointer (some ⟨g, 0, none⟩))
    (hi : ∀ W v, W.cell? ⟨g, 0, none⟩ = some (.bool v) → (results fn tmps).run P W = .ok (.bool v) W) (hc : W.heap[g]? = some (.cells #[.bool b] tb (0, 0))) (hR : R (.returned (.bool b)) W) :
    LeavesInM Fence.wide n P fn tmps R [] .returning W := by
  refine ⟨_, hi W b ?_, hR⟩
  have := cell_of_row W g 0 _ _ _ hc
  simpa using this
theorem aN_comm (s s' : Int) (c c' r r' : Nat) : aN s' s c' c r' r = aN s s' c c' r r' := by
  unfold aN aW
  rw [Nat.max_comm c' c, Nat.min_comm c' c, Nat.max_comm r' r, Nat.min_comm r' r]
  by_cases h : s = s'
  · rw [if_pos h, if_pos h.symm]
  · rw [if_neg h, if_neg (fun e => h e.symm)]
theorem aN_pos (s : Int) (c c' r r' : Nat) : 1 ≤ aN s s c c' r r' := by
  unfold aN
  rw [if_pos rfl]
  exact Nat.mul_pos (by unfold aW; omega) (by unfold aW; omega)
theorem aN_none {s s' : Int} (c c' r r' : Nat) (h : s ≠ s') : aN s s' c c' r r' = 0 := by
  unfold aN
  rw [if_neg h]
theorem aN_lt (s s' : Int) {c c' r r' : Nat} (hc : c < 1000) (hc' : c' < 1000) (hr : r < 1000) (hr' : r' < 1000) : aN s s' c c' r r' ≤ 1000000 := by
  unfold aN
  split
  · exact Nat.mul_le_mul (show aW r r' ≤ 1000 by unfold aW; omega) (show aW c c' ≤ 1000 by unfold aW; omega)
  · omega
end Go.Proofs.YtkbcdnndhglnoaaDoor
