/-
  value: what values are turned into: walks. Conditions: each theorem's own.
-/
import Derived.Test.YtmdlahkmnjmanaaDoorErrs
import Derived.Test.YtmdlahkmnjmanaaDoorPrintW
import Derived.Test.YtmdlahkmnjmanaaDoorParseW
import Derived.Test.YtmdlahkmnjmanaaDoorBlocks
namespace Go.Proofs.YtmdlahkmnjmanaaDoor
open Go.RowKit Num
set_option linter.unusedVariables false
set_option linter.unusedSimpArgs false

/-- A value that may be. -/
inductive RV where
  | blank
  | num (n : Int)
  | text (s : ByteArray)
  | bool (b : Bool)
  | err (c : Int)
def RV.k : RV → Int
  | .blank => 0
  | .num _ => 1
  | .text _ => 2
  | .bool _ => 3
  | .err _ => 4
def RV.n : RV → Int
  | .blank => 0
  | .num n => n
  | .text _ => 0
  | .bool b => if b then 1 else 0
  | .err c => c
def RV.s : RV → ByteArray
  | .text s => s
  | _ => ⟨#[]⟩
def RV.val (x : RV) : Value := .agg #[.int .i64 x.k, .int .i64 x.n, .string x.s]
def RV.ok : RV → Prop
  | .num n => -9223372036854775807 ≤ n ∧ n ≤ 9223372036854775807
  | .text s => s.size ≤ 64
  | .err c => 1 ≤ c ∧ c ≤ 7
  | _ => True
theorem size_zero {s : ByteArray} (h : s.size = 0) : s = ⟨#[]⟩ := by
  cases s with
  | mk d => congr 1; exact Array.eq_empty_of_size_eq_zero h
def tTRUE : ByteArray := ⟨#[84, 82, 85, 69]⟩
def tFALSE : ByteArray := ⟨#[70, 65, 76, 83, 69]⟩
def showB : RV → ByteArray
  | .blank => ⟨#[]⟩
  | .num n => ⟨(txt n).toArray⟩
  | .text s => s
  | .bool b => if b then tTRUE else tFALSE
  | .err c => errName c
def textOf (s : ByteArray) : RV := if s.size ≤ 64 then .text s else .err 2
def numOfText (s : ByteArray) : RV := match parse (Lib.trimPrefix s.data.toList [45]) with
  | none => .err 2
  | some v => .num (if Lib.hasPrefix s.data.toList [45] then -(v : Int) else (v : Int))
def toNum : RV → RV
  | .blank => .num 0
  | .num n => .num n
  | .text s => numOfText s
  | .bool b => .num (if b then 1000000 else 0)
  | .err c => .err c
def toText : RV → RV
  | .err c => .err c
  | x => textOf (showB x)
def toBool : RV → RV
  | .blank => .bool false
  | .num n => .bool (n != 0)
  | .text s => if s = tTRUE then .bool true else if s = tFALSE then .bool false else .err 2
  | .bool b => .bool b
  | .err c => .err c

abbrev RetRV (x : RV) (w : World) (e : Ending) (w' : World) : Prop := e = .returned x.val ∧ Ext w w'
theorem num_v (n : Int) (w : World) : Calls Tryd.prog 14 #[.int .i64 n] w (RetRV (.num n) w) := (vnum_any n w).mono fun _ _ h => h
theorem fail_v (c : Int) (w : World) : Calls Tryd.prog 12 #[.int .i64 c] w (RetRV (.err c) w) := (vfail_any c w).mono fun _ _ h => h
theorem made_yes_v (n : Int) (w : World) : Calls Tryd.prog 20 #[.int .i64 n, .bool true] w (RetRV (.num n) w) := (vmade_yes n w).mono fun _ _ h => h
theorem made_no_v (n : Int) (w : World) : Calls Tryd.prog 20 #[.int .i64 n, .bool false] w (RetRV (.err 5) w) := (vmade_no n w).mono fun _ _ h => h
theorem text_v (s : ByteArray) (w : World) : Calls Tryd.prog 11 #[.string s] w (RetRV (textOf s) w) := by
  unfold textOf
  by_cases h : s.size ≤ 64
  · rw [if_pos h]; exact (vtext_yes s w h).mono fun _ _ h => h
  · rw [if_neg h]; exact (vtext_no s w (by omega)).mono fun _ _ h => h
theorem bool_v (b : Bool) (w : World) : Calls Tryd.prog 28 #[.bool b] w (RetRV (.bool b) w) := by
  have hE := Ext.refl w
  cases b
  · go_enter Tryd.func28, Tryd.ntmps28
    go_wp2_with fail
    refine bodyPost_ret (v := (.agg #[.int .i64 3, .int .i64 0, .string ⟨#[]⟩])) (by simp [results, Tryd.results28, go_sem, *]) rfl ⟨rfl, ?_⟩; repeat (first | with_reducible assumption | (with_reducible refine below_set ?_ (by first | omega | (simp only [World.size_alloc]; omega))) | (with_reducible refine below_row ?_ (by first | omega | (simp only [World.size_alloc]; omega))) | (with_reducible refine below_drewN ?_ _) | (with_reducible refine below_drew1 ?_) | (with_reducible refine ext_alloc ?_ _))
  · go_enter Tryd.func28, Tryd.ntmps28
    go_wp2_with fail
    refine bodyPost_ret (v := (.agg #[.int .i64 3, .int .i64 1, .string ⟨#[]⟩])) (by simp [results, Tryd.results28, go_sem, *]) rfl ⟨rfl, ?_⟩; repeat (first | with_reducible assumption | (with_reducible refine below_set ?_ (by first | omega | (simp only [World.size_alloc]; omega))) | (with_reducible refine below_row ?_ (by first | omega | (simp only [World.size_alloc]; omega))) | (with_reducible refine below_drewN ?_ _) | (with_reducible refine below_drew1 ?_) | (with_reducible refine ext_alloc ?_ _))
theorem show_v (x : RV) (w : World) (h : x.ok) (ht : Tab w) : Calls Tryd.prog 17 #[x.val] w fun e w' => e = .returned (.string (showB x)) ∧ Ext w w' := by
  have hE := Ext.refl w
  cases x with
  | blank =>
    change Calls _ _ #[.agg #[.int .i64 0, .int .i64 0, .string ⟨#[]⟩]] w _
    go_enter Tryd.func17, Tryd.ntmps17
    go_wp2_with fail
    go_ret
    exact ⟨rfl, below_alloc1 _ _⟩
  | num n =>
    have hp := fun w => print_any n w h
    have HP := Lib.hid hp
    clear hp
    change Calls _ _ #[.agg #[.int .i64 1, .int .i64 n, .string ⟨#[]⟩]] w _
    go_enter Tryd.func17, Tryd.ntmps17
    go_wp2_with fail
    refine (HP.out _).mono ?_
    rintro e w1 ⟨rfl, hE1⟩
    go_wp2_with fail
    go_ret
    exact ⟨rfl, ext_dig hE1⟩
  | text s =>
    change Calls _ _ #[.agg #[.int .i64 2, .int .i64 0, .string s]] w _
    go_enter Tryd.func17, Tryd.ntmps17
    go_wp2_with fail
    go_ret
    exact ⟨rfl, below_alloc1 _ _⟩
  | bool b =>
    cases b
    · change Calls _ _ #[.agg #[.int .i64 3, .int .i64 0, .string ⟨#[]⟩]] w _
      go_enter Tryd.func17, Tryd.ntmps17
      go_wp2_with fail
      go_ret
      exact ⟨rfl, below_alloc1 _ _⟩
    · change Calls _ _ #[.agg #[.int .i64 3, .int .i64 1, .string ⟨#[]⟩]] w _
      go_enter Tryd.func17, Tryd.ntmps17
      go_wp2_with fail
      go_ret
      exact ⟨rfl, below_alloc1 _ _⟩
  | err c =>
    have hp := fun w (ht : Tab w) => ename_any c w ht
    have HP := Lib.hid hp
    obtain ⟨h1, h2⟩ := h
    have ht' := ht.alloc (.cells #[.int .i64 4, .int .i64 c, .string ⟨#[]⟩] 24)
    have HT := Lib.hid ht'
    clear hp ht ht'
    change Calls _ _ #[.agg #[.int .i64 4, .int .i64 c, .string ⟨#[]⟩]] w _
    go_enter Tryd.func17, Tryd.ntmps17
    go_wp2_with fail
    refine (HP.out _ HT.out).mono ?_
    rintro e w1 ⟨rfl, hE1⟩
    go_wp2_with fail
    go_ret
    exact ⟨rfl, ext_dig hE1⟩
end Go.Proofs.YtmdlahkmnjmanaaDoor
