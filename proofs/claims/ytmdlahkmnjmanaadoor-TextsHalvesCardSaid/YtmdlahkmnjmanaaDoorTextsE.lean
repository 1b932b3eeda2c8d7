/-
  texts: More of CONCAT: walk. Conditions: each theorem's own.
-/
import Derived.Test.YtmdlahkmnjmanaaDoorTextsB
import Derived.Test.YtmdlahkmnjmanaaDoorShelf
namespace Go.Proofs.YtmdlahkmnjmanaaDoor
open Go.RowKit Num
set_option linter.unusedVariables false
set_option linter.unusedSimpArgs false

theorem join_two (a b : List UInt8) : Lib.join [a, b] [] = a ++ b := by simp [Lib.join, List.intercalate]
set_option maxRecDepth 100000 in
set_option maxHeartbeats 2000000 in
theorem more_concat (a b c : ByteArray) (g : Nat) (w : World) (hc : (⟨(a.data.toList ++ b.data.toList).toArray⟩ : ByteArray) = c) (hs : c.size ≤ 64) (ha : w.cell? ⟨g, 0, none⟩ = some (.string a)) (hb : w.cell? ⟨g, 1, none⟩ = some (.string b)) (hlt : g < w.heap.size) :
    Calls Tryd.prog 16 #[.string ⟨#[67, 79, 78, 67, 65, 84]⟩, .slice (some ⟨g, 0, none⟩) 2 2] w fun e w' => e = .returned (.agg #[.int .i64 2, .int .i64 0, .string c]) ∧ Ext w w' := by
  have hE := Ext.refl w
  have hab : (a.data.toList ++ b.data.toList).length ≤ 64 := by
    rw [← hc] at hs
    have : ByteArray.size ⟨(a.data.toList ++ b.data.toList).toArray⟩ = (a.data.toList ++ b.data.toList).length := by show (a.data.toList ++ b.data.toList).toArray.size = _; rw [List.size_toArray]
    omega
  have c1 := fun w' (hE : Ext w w') => Tryd.strings_Join g 0 2 [a, b] ⟨#[]⟩ w' (fun j x hx => by
    match j, hx with
    | 0, hx => simp at hx; subst hx; exact ext_cell hlt ha w' hE
    | 1, hx => simp at hx; subst hx; exact ext_cell hlt hb w' hE) (Nat.lt_of_lt_of_le hlt hE.size) (by simp) (by simp) (by rw [List.map_cons, List.map_cons, List.map_nil, show (ByteArray.data ⟨#[]⟩).toList = [] from rfl, join_two]; omega)
  rw [show ([a, b].map (·.data.toList)) = [a.data.toList, b.data.toList] from rfl, show (ByteArray.data ⟨#[]⟩).toList = [] from rfl, join_two, hc] at c1
  have C1 : Hid (∀ w', Ext w w' → Calls Tryd.prog 27 #[.slice (some ⟨g, 0, none⟩) 2 2, .string ⟨#[]⟩] w' fun e w'' => e = .returned (.string c) ∧ Ext w' w'') := Lib.hid c1
  have C2 : Hid (∀ w, Calls Tryd.prog 11 #[.string c] w fun e w' => e = .returned (.agg #[.int .i64 2, .int .i64 0, .string c]) ∧ Ext w w') := Lib.hid (fun w => (vtext_yes c w hs).mono fun _ _ h => h)
  clear c1 hc hab
  go_enter Tryd.func16, Tryd.ntmps16
  go_wp2_with fail
  refine (C1.out _ (ext_alloc hE _)).mono ?_
  rintro e w1 ⟨rfl, hE1⟩
  go_wp2_with fail
  refine (C2.out _).mono ?_
  rintro e w2 ⟨rfl, hE2⟩
  have hE3 := hE1.trans hE2
  clear hE1 hE2
  obtain ⟨gc3, gf3⟩ := ecell hE3; have gh3 := bheap hE3; have hz3 := Below.size hE3; simp only [World.size_alloc] at hz3; have hX3 := (ext_dig hE3); have hl3_0 : w.heap.size < w2.heap.size := (by omega); have hm3_0 : w.heap.size < w2.heap.size + 1 := (by omega); have hn3_0 : w.heap.size < w2.heap.size + 1 + 1 := (by omega)
  go_wp2_with fail
  refine bodyPost_ret (v := (.agg #[.int .i64 2, .int .i64 0, .string c])) (by simp [results, Tryd.results16, go_sem, *]) rfl ⟨rfl, ?_⟩; repeat (first | with_reducible assumption | (with_reducible refine below_set ?_ (by first | omega | (simp only [World.size_alloc]; omega))) | (with_reducible refine below_row ?_ (by first | omega | (simp only [World.size_alloc]; omega))) | (with_reducible refine below_drewN ?_ _) | (with_reducible refine below_drew1 ?_) | (with_reducible refine ext_alloc ?_ _))
theorem halves (S : ByteArray) (k : Nat) (h : k ≤ S.size) : S.extract 0 k ++ S.extract k S.size = S := by
  refine ByteArray.ext ?_
  rw [ByteArray.data_append, ByteArray.data_extract, ByteArray.data_extract]
  apply Array.ext'
  have hs : S.size = S.data.toList.length := by simp
  simp only [Array.toList_append, Array.toList_extract, List.extract_eq_take_drop, hs, Nat.sub_zero, List.drop_zero]
  rw [show S.data.toList.length - k = (S.data.toList.drop k).length by simp, List.take_length]
  exact List.take_append_drop _ _
theorem lists_two (a b : ByteArray) : (⟨(a.data.toList ++ b.data.toList).toArray⟩ : ByteArray) = a ++ b := by
  refine ByteArray.ext ?_
  rw [ByteArray.data_append]
  apply Array.ext'
  simp
theorem halves_list (S : ByteArray) (k : Nat) (h : k ≤ S.size) : (⟨((S.extract 0 k).data.toList ++ (S.extract k S.size).data.toList).toArray⟩ : ByteArray) = S := by
  rw [lists_two, halves S k h]
end Go.Proofs.YtmdlahkmnjmanaaDoor
