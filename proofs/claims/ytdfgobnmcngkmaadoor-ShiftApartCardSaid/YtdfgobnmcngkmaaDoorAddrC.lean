/-
  addr: Parse of a reference's text, PrintRef; the law's fit: walks. Conditions: each theorem's own.
-/
import Derived.Test.YtdfgobnmcngkmaaDoorAddrB
namespace Go.Proofs.YtdfgobnmcngkmaaDoor
open Go.RowKit
set_option linter.unusedVariables false
set_option linter.unusedSimpArgs false

theorem mk_tail (b : UInt8) (l : List UInt8) : (mk (b :: l)).extract 1 (mk (b :: l)).size = mk l := by
  refine ByteArray.ext ?_
  rw [ByteArray.data_extract, mk_size]
  apply Array.ext'
  simp [mk]
theorem mk_head (b : UInt8) (l : List UInt8) (h : 0 < (mk (b :: l)).size) : (mk (b :: l))[0]'h = b := rfl
theorem parse_body (x y : Bool) (t c r : Nat) (w : World) (hm : MaxI w) (ht : t < 3) (hc : c < 26) (hr : r < 99) :
    Calls Tryd.prog 48 #[.string (mk (bodyL x y c r)), .int .i64 (t : Int)] w fun e w' => e = .returned (.tuple #[refV t c r x y, .bool true]) ∧ Ext w w' := by
  have hn := body_no x y hc hr
  have hl := body_len x y hr (c := c)
  have hcb := colB_nat hc
  have h36 : colB c ≠ 36 := by intro e; rw [e] at hcb; have : (36 : UInt8).toNat = 36 := rfl; omega
  obtain ⟨t1, t2⟩ := trim_dol x (colB c) (dol y ++ D2 (r + 1)) h36
  obtain ⟨t3, t4⟩ := trim_digits y (show r + 1 < 100 by omega)
  refine parse_core (mk (bodyL x y c r)) (mk []) (mk (colB c :: (dol y ++ D2 (r + 1)))) (mk (dol y ++ D2 (r + 1))) (mk (D2 (r + 1))) (mk (bodyL x y c r)) false x y t t c r w hm
    (fun w hm => ?_) (fun w => ?_) (fun w => ?_) (fun w => atoiC (r + 1) (by omega) w) (fun w => itoaC (r + 1) (by omega) w) (by rw [mk_size]; simp) ?_ (mk_tail _ _) ?_ ht hc hr (fun h => by cases h) (fun _ => rfl)
  · have := cutC (mk (bodyL x y c r)) w hm (by rw [mk_size]; omega)
    rw [mk_list, cut_no _ hn] at this
    exact this
  · have := preC (mk (bodyL x y c r)) w
    rw [mk_list, show bodyL x y c r = dol x ++ (colB c :: (dol y ++ D2 (r + 1))) from rfl, t1, t2] at this
    exact this
  · have := preC (mk (dol y ++ D2 (r + 1))) w
    rw [mk_list, t3, t4] at this
    exact this
  · rw [mk_head]; exact hcb
  · rw [mk_size]
    have : (bodyL x y c r).length = (dol x).length + (colB c :: (dol y ++ D2 (r + 1))).length := by simp [bodyL]
    omega
theorem parse_full (x y : Bool) (t : Int) (s c r : Nat) (w : World) (hm : MaxI w) (hs : s < 3) (hc : c < 26) (hr : r < 99) :
    Calls Tryd.prog 48 #[.string (mk (fullL s x y c r)), .int .i64 t] w fun e w' => e = .returned (.tuple #[refV s c r x y, .bool true]) ∧ Ext w w' := by
  have hl := body_len x y hr (c := c)
  have hcb := colB_nat hc
  have h36 : colB c ≠ 36 := by intro e; rw [e] at hcb; have : (36 : UInt8).toNat = 36 := rfl; omega
  have hsb : (UInt8.ofNat (49 + s)).toNat = 49 + s := by simp [UInt8.toNat_ofNat']; omega
  have h33 : UInt8.ofNat (49 + s) ≠ 33 := by intro e; rw [e] at hsb; have : (33 : UInt8).toNat = 33 := rfl; omega
  obtain ⟨t1, t2⟩ := trim_dol x (colB c) (dol y ++ D2 (r + 1)) h36
  obtain ⟨t3, t4⟩ := trim_digits y (show r + 1 < 100 by omega)
  refine parse_core (mk (fullL s x y c r)) (mk (bodyL x y c r)) (mk (colB c :: (dol y ++ D2 (r + 1)))) (mk (dol y ++ D2 (r + 1))) (mk (D2 (r + 1))) (mk [83, UInt8.ofNat (49 + s)]) true x y t s c r w hm
    (fun w hm => ?_) (fun w => ?_) (fun w => ?_) (fun w => atoiC (r + 1) (by omega) w) (fun w => itoaC (r + 1) (by omega) w) (by rw [mk_size]; simp) ?_ (mk_tail _ _) ?_ hs hc hr (fun _ => ⟨rfl, rfl, hsb⟩) (fun h => by cases h)
  · have := cutC (mk (fullL s x y c r)) w hm (by rw [mk_size]; simp only [fullL, List.length_cons]; omega)
    rw [mk_list, show fullL s x y c r = 83 :: UInt8.ofNat (49 + s) :: 33 :: bodyL x y c r from rfl, cut_yes _ _ _ (by decide) h33] at this
    exact this
  · have := preC (mk (bodyL x y c r)) w
    rw [mk_list, show bodyL x y c r = dol x ++ (colB c :: (dol y ++ D2 (r + 1))) from rfl, t1, t2] at this
    exact this
  · have := preC (mk (dol y ++ D2 (r + 1))) w
    rw [mk_list, t3, t4] at this
    exact this
  · rw [mk_head]; exact hcb
  · rw [mk_size]
    have : (bodyL x y c r).length = (dol x).length + (colB c :: (dol y ++ D2 (r + 1))).length := by simp [bodyL]
    omega
end Go.Proofs.YtdfgobnmcngkmaaDoor
