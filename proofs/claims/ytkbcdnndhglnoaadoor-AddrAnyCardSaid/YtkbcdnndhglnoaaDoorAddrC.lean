/-
  addr: Parse of a reference's text, PrintRef; the law's fit: walks. Conditions: each theorem's own.
-/
import Derived.Test.YtkbcdnndhglnoaaDoorAddrB
namespace Go.Proofs.YtkbcdnndhglnoaaDoor
open Go.RowKit
set_option linter.unusedVariables false
set_option linter.unusedSimpArgs false

theorem mk_tail (b : UInt8) (l : List UInt8) : (mk (b :: l)).extract 1 (mk (b :: l)).size = mk l := by
  refine ByteArray.ext ?_
  rw [ByteArray.data_extract, mk_size]
  apply Array.ext'
  simp [mk]
theorem mk_head (b : UInt8) (l : List UInt8) (h : 0 < (mk (b :: l)).size) : (mk (b :: l))[0]'h = b := rfl
theorem parse_body (x y : Bool) (t c r : Nat) (w : World) (hm : MaxI w) (ht : t < 3) (hc : c < 26) (hr : r < 99) :
    Calls Tryd.prog 12 #[.string (mk (bodyL x y c r)), .int .i64 (t : Int)] w fun e w' => e = .returned (.tuple #[refV t c r x y, .bool true]) ∧ Ext w w' := by
  have hn := body_no x y hc hr
  have hl := body_len x y hr (c := c)
  have hcb := colB_nat hc
  have h36 : colB c ≠ 36 := by intro e; rw [e] at hcb; have : (36 : UInt8).toNat = 36 := rfl; omega
  obtain ⟨t1, t2⟩ := trim_dol x (colB c) (dol y ++ D2 (r + 1)) h36
  obtain ⟨t3, t4⟩ := trim_digits y (show r + 1 < 100 by omega)
  refine parse_core (mk (bodyL x y c r)) (mk []) (mk (colB c :: (dol y ++ D2 (r + 1)))) (mk (dol y ++ D2 (r + 1))) (mk (D2 (r + 1))) (mk (bodyL x y c r)) false x y t t c r w hm
    (fun w hm => ?_) (fun w => ?_) (fun w => ?_) (fun w => atoiC (r + 1) (by omega) w) (fun w => itoaC (r + 1) (by omega) w) (by rw [mk_size]; simp) ?_ (mk_tail _ _) ?_ ht hc hr (fun h => by cases h) (fun _ => rfl)
  · have := cutC (mk (bodyL x y c r)) w hm (by rw [mk_size]; omega)
    rw [mk_list, cut_no _ hn] at this
    exact this
  · have := preC (mk (bodyL x y c r)) w
    rw [mk_list, show bodyL x y c r = dol x ++ (colB c :: (dol y ++ D2 (r + 1))) from rfl, t1, t2] at this
    exact this
  · have := preC (mk (dol y ++ D2 (r + 1))) w
    rw [mk_list, t3, t4] at this
    exact this
  · rw [mk_head]; exact hcb
  · rw [mk_size]
    have : (bodyL x y c r).length = (dol x).length + (colB c :: (dol y ++ D2 (r + 1))).length := by simp [bodyL]
    omega
theorem parse_full (x y : Bool) (t : Int) (s c r : Nat) (w : World) (hm : MaxI w) (hs : s < 3) (hc : c < 26) (hr : r < 99) :
    Calls Tryd.prog 12 #[.string (mk (fullL s x y c r)), .int .i64 t] w fun e w' => e = .returned (.tuple #[refV s c r x y, .bool true]) ∧ Ext w w' := by
  have hl := body_len x y hr (c := c)
  have hcb := colB_nat hc
  have h36 : colB c ≠ 36 := by intro e; rw [e] at hcb; have : (36 : UInt8).toNat = 36 := rfl; omega
  have hsb : (UInt8.ofNat (49 + s)).toNat = 49 + s := by simp [UInt8.toNat_ofNat']; omega
  have h33 : UInt8.ofNat (49 + s) ≠ 33 := by intro e; rw [e] at hsb; have : (33 : UInt8).toNat = 33 := rfl; omega
  obtain ⟨t1, t2⟩ := trim_dol x (colB c) (dol y ++ D2 (r + 1)) h36
  obtain ⟨t3, t4⟩ := trim_digits y (show r + 1 < 100 by omega)
  refine parse_core (mk (fullL s x y c r)) (mk (bodyL x y c r)) (mk (colB c :: (dol y ++ D2 (r + 1)))) (mk (dol y ++ D2 (r + 1))) (mk (D2 (r + 1))) (mk [83, UInt8.ofNat (49 + s)]) true x y t s c r w hm
    (fun w hm => ?_) (fun w => ?_) (fun w => ?_) (fun w => atoiC (r + 1) (by omega) w) (fun w => itoaC (r + 1) (by omega) w) (by rw [mk_size]; simp) ?_ (mk_tail _ _) ?_ hs hc hr (fun _ => ⟨rfl, rfl, hsb⟩) (fun h => by cases h)
  · have := cutC (mk (fullL s x y c r)) w hm (by rw [mk_size]; simp only [fullL, List.length_cons]; omega)
    rw [mk_list, show fullL s x y c r = 83 :: UInt8.ofNat (49 + s) :: 33 :: bodyL x y c r from rfl, cut_yes _ _ _ (by decide) h33] at this
    exact this
  · have := preC (mk (bodyL x y c r)) w
    rw [mk_list, show bodyL x y c r = dol x ++ (colB c :: (dol y ++ D2 (r + 1))) from rfl, t1, t2] at this
    exact this
  · have := preC (mk (dol y ++ D2 (r + 1))) w
    rw [mk_list, t3, t4] at this
    exact this
  · rw [mk_head]; exact hcb
  · rw [mk_size]
    have : (bodyL x y c r).length = (dol x).length + (colB c :: (dol y ++ D2 (r + 1))).length := by simp [bodyL]
    omega
theorem fit_a (w : World) (hm : MaxI w) : Calls Tryd.prog 9 #[] w fun e w' => e = .returned (.bool true) ∧ Ext w w' := by
  have c1 := parse_body true false 0 1 2 w hm (by decide) (by decide) (by decide)
  rw [show mk (bodyL true false 1 2) = ⟨#[36, 66, 51]⟩ from rfl] at c1
  have C1 : Hid (Calls Tryd.prog 12 #[.string ⟨#[36, 66, 51]⟩, .int .i64 0] w fun e w' => e = .returned (.tuple #[.agg #[.int .i64 0, .int .i64 1, .int .i64 2, .bool true, .bool false], .bool true]) ∧ Ext w w') := Lib.hid c1
  clear c1
  go_enter Tryd.func9, Tryd.ntmps9
  go_wp2_with fail
  refine C1.out.mono ?_
  rintro e w1 ⟨rfl, hE1⟩
  go_wp2_with fail
  go_ret
  exact ⟨rfl, ext_alloc hE1 _⟩
set_option maxRecDepth 100000 in
set_option maxHeartbeats 8000000 in
theorem print_core (s c r : Nat) (sh : Int) (x y : Bool) (w : World) (hs : s < 3) (hc : c < 26) (hr : r < 99) (T : ByteArray) (hT : T = mk (if (s : Int) = sh then bodyL x y c r else fullL s x y c r)) :
    Calls Tryd.prog 13 #[refV s c r x y, .int .i64 sh] w fun e w' => e = .returned (.string T) ∧ Ext w w' := by
  have hE := ext_alloc (Ext.refl w) (.cells #[.int .i64 s, .int .i64 c, .int .i64 r, .bool x, .bool y] 29)
  obtain ⟨k, hk⟩ : ∃ k, r + 1 = k := ⟨_, rfl⟩
  obtain ⟨m, hmm⟩ : ∃ m, s + 1 = m := ⟨_, rfl⟩
  have C1 := Lib.hid (fun w => itoaC m (by omega) w)
  have C2 := Lib.hid (fun w => itoaC k (by omega) w)
  have hd1 : (mk (D2 m)).size ≤ 2 := by rw [mk_size]; exact (d2_facts m (by omega)).2.2.1
  have hd2 : (mk (D2 k)).size ≤ 2 := by rw [mk_size]; exact (d2_facts k (by omega)).2.2.1
  have hw1 : (s : Int) + 1 = (m : Int) := by omega
  have hw2 : (r : Int) + 1 = (k : Int) := by omega
  have henc : Utf8.encode (65 + (c : Int)) = mk [colB c] := by
    unfold Utf8.encode
    have hv : Utf8.valid (65 + (c : Int)) = true := by simp only [Utf8.valid, Bool.or_eq_true, Bool.and_eq_true, decide_eq_true_eq]; omega
    rw [hv]
    have hn : (65 + (c : Int)).toNat = 65 + c := by omega
    simp only [if_true, hn]
    rw [if_pos (by omega)]
    rfl
  have hcz : (mk [colB c]).size ≤ 1 := by rw [mk_size]; simp
  have hc26 : (c : Int) < 26 := by omega
  have hs3 : (s : Int) < 3 := by omega
  have hr99 : (r : Int) < 99 := by omega
  have HD : Hid (D2 m = [UInt8.ofNat (49 + s)]) := Lib.hid (by unfold D2; rw [if_pos (by omega), ← hmm, show 48 + (s + 1) = 49 + s by omega])
  have HK := Lib.hid hk
  have HT : Hid (T.data.toList = if (s : Int) = sh then bodyL x y c r else fullL s x y c r) := Lib.hid (by rw [hT, mk_list])
  clear hT hk hmm
  by_cases hq : (s : Int) = sh
  · have hq' : ((s : Int) != sh) = false := by simpa using hq
    cases x <;> cases y
    · go_enter Tryd.func13, Tryd.ntmps13
      go_wp2_with fail
      refine (C2.out _).mono ?_
      rintro e w'' ⟨rfl, hw''⟩
      rw [hw'']
      go_wp2_with fail
      go_ret
      exact ⟨by
        refine congrArg (fun b => Ending.returned (Value.string b)) ?_
        refine ByteArray.ext (Array.ext' ?_)
        rw [HT.out, if_pos hq]
        simp [bodyL, dol, mk, HK.out, HD.out], below_alloc1 _ _⟩
    · go_enter Tryd.func13, Tryd.ntmps13
      go_wp2_with fail
      refine (C2.out _).mono ?_
      rintro e w'' ⟨rfl, hw''⟩
      rw [hw'']
      go_wp2_with fail
      go_ret
      exact ⟨by
        refine congrArg (fun b => Ending.returned (Value.string b)) ?_
        refine ByteArray.ext (Array.ext' ?_)
        rw [HT.out, if_pos hq]
        simp [bodyL, dol, mk, HK.out, HD.out], below_alloc1 _ _⟩
    · go_enter Tryd.func13, Tryd.ntmps13
      go_wp2_with fail
      refine (C2.out _).mono ?_
      rintro e w'' ⟨rfl, hw''⟩
      rw [hw'']
      go_wp2_with fail
      go_ret
      exact ⟨by
        refine congrArg (fun b => Ending.returned (Value.string b)) ?_
        refine ByteArray.ext (Array.ext' ?_)
        rw [HT.out, if_pos hq]
        simp [bodyL, dol, mk, HK.out, HD.out], below_alloc1 _ _⟩
    · go_enter Tryd.func13, Tryd.ntmps13
      go_wp2_with fail
      refine (C2.out _).mono ?_
      rintro e w'' ⟨rfl, hw''⟩
      rw [hw'']
      go_wp2_with fail
      go_ret
      exact ⟨by
        refine congrArg (fun b => Ending.returned (Value.string b)) ?_
        refine ByteArray.ext (Array.ext' ?_)
        rw [HT.out, if_pos hq]
        simp [bodyL, dol, mk, HK.out, HD.out], below_alloc1 _ _⟩
  · have hq' : ((s : Int) != sh) = true := by simpa using hq
    cases x <;> cases y
    · go_enter Tryd.func13, Tryd.ntmps13
      go_wp2_with fail
      refine (C1.out _).mono ?_
      rintro e w' ⟨rfl, hw'⟩
      rw [hw']
      go_wp2_with fail
      refine (C2.out _).mono ?_
      rintro e w'' ⟨rfl, hw''⟩
      rw [hw'']
      go_wp2_with fail
      go_ret
      exact ⟨by
        refine congrArg (fun b => Ending.returned (Value.string b)) ?_
        refine ByteArray.ext (Array.ext' ?_)
        rw [HT.out, if_neg hq]
        simp [bodyL, fullL, dol, mk, HK.out, HD.out], below_alloc1 _ _⟩
    · go_enter Tryd.func13, Tryd.ntmps13
      go_wp2_with fail
      refine (C1.out _).mono ?_
      rintro e w' ⟨rfl, hw'⟩
      rw [hw']
      go_wp2_with fail
      refine (C2.out _).mono ?_
      rintro e w'' ⟨rfl, hw''⟩
      rw [hw'']
      go_wp2_with fail
      go_ret
      exact ⟨by
        refine congrArg (fun b => Ending.returned (Value.string b)) ?_
        refine ByteArray.ext (Array.ext' ?_)
        rw [HT.out, if_neg hq]
        simp [bodyL, fullL, dol, mk, HK.out, HD.out], below_alloc1 _ _⟩
    · go_enter Tryd.func13, Tryd.ntmps13
      go_wp2_with fail
      refine (C1.out _).mono ?_
      rintro e w' ⟨rfl, hw'⟩
      rw [hw']
      go_wp2_with fail
      refine (C2.out _).mono ?_
      rintro e w'' ⟨rfl, hw''⟩
      rw [hw'']
      go_wp2_with fail
      go_ret
      exact ⟨by
        refine congrArg (fun b => Ending.returned (Value.string b)) ?_
        refine ByteArray.ext (Array.ext' ?_)
        rw [HT.out, if_neg hq]
        simp [bodyL, fullL, dol, mk, HK.out, HD.out], below_alloc1 _ _⟩
    · go_enter Tryd.func13, Tryd.ntmps13
      go_wp2_with fail
      refine (C1.out _).mono ?_
      rintro e w' ⟨rfl, hw'⟩
      rw [hw']
      go_wp2_with fail
      refine (C2.out _).mono ?_
      rintro e w'' ⟨rfl, hw''⟩
      rw [hw'']
      go_wp2_with fail
      go_ret
      exact ⟨by
        refine congrArg (fun b => Ending.returned (Value.string b)) ?_
        refine ByteArray.ext (Array.ext' ?_)
        rw [HT.out, if_neg hq]
        simp [bodyL, fullL, dol, mk, HK.out, HD.out], below_alloc1 _ _⟩
end Go.Proofs.YtkbcdnndhglnoaaDoor
