/-
  ValueTurns: walk, all values. Conditions: the argument's own.
-/
import Derived.Test.YtkkfgobdkbcdhaaDoorValueTurnsW
namespace Go.Proofs.YtkkfgobdkbcdhaaDoor.valueTurns
open Go.RowKit Num
set_option linter.unusedVariables false
set_option linter.unusedSimpArgs false

theorem parse_minus (l : List UInt8) : parse (45 :: l) = none := by
  unfold parse pv
  rw [if_neg (by decide), if_pos (.inl (by decide))]
  rfl
theorem numOf_parse {s : ByteArray} {v : Nat} (h : parse s.data.toList = some v) : numOfText s = .num (v : Int) := by
  have hp : Lib.hasPrefix s.data.toList [45] = false := by
    cases hl : s.data.toList with
    | nil => rfl
    | cons c l =>
      have hne : c ≠ 45 := by
        rintro rfl
        rw [hl, parse_minus] at h
        cases h
      have : (45 == c) = false := by rw [beq_eq_false_iff_ne]; exact fun e => hne e.symm
      simp [Lib.hasPrefix, List.isPrefixOf, this]
  have ht : Lib.trimPrefix s.data.toList [45] = s.data.toList := by unfold Lib.trimPrefix; rw [hp]; rfl
  unfold numOfText
  rw [ht, h, hp]
  rfl
theorem walk_text (s : ByteArray) (w : World) (ht : Tab w) (h : (RV.text s).ok) :
    Calls Tryd.prog 5 #[.agg #[.int .i64 2, .int .i64 0, .string s]] w fun e w' => e = .returned (.bool true) ∧ Ext w w' := by
  have hs : s.size ≤ 1000000000000000000 := by have : s.size ≤ 64 := h; omega
  have key : ∃ (m nk nn : Int) (ns : ByteArray) (ok : Bool), ((ok = true ∧ nk = 1 ∧ nn = m ∧ ns = ⟨#[]⟩) ∨ (ok = false ∧ m = 0 ∧ nk = 4 ∧ nn = 2 ∧ ns = ⟨#[]⟩) ∨ (ok = false ∧ m = 0 ∧ nk = 1 ∧ ns = ⟨#[]⟩)) ∧
      Hid (∀ w, Calls Tryd.prog 24 #[.string s] w fun e w' => e = .returned (.tuple #[.int .i64 m, .bool ok]) ∧ Ext w w') ∧
      Hid (∀ w, Calls Tryd.prog 19 #[.agg #[.int .i64 2, .int .i64 0, .string s]] w fun e w' => e = .returned (.agg #[.int .i64 nk, .int .i64 nn, .string ns]) ∧ Ext w w') := by
    have hN := fun w => tonum_v (.text s) w h
    rw [show toNum (.text s) = numOfText s from rfl] at hN
    cases hp : parse s.data.toList with
    | some v =>
      rw [numOf_parse hp] at hN
      exact ⟨v, 1, v, ⟨#[]⟩, true, .inl ⟨rfl, rfl, rfl, rfl⟩, Lib.hid (fun w => parse_yes s w v hs hp), Lib.hid hN⟩
    | none =>
      rcases numOfText_two s with e | ⟨n, e, -, -⟩
      · rw [e] at hN
        exact ⟨0, 4, 2, ⟨#[]⟩, false, .inr (.inl ⟨rfl, rfl, rfl, rfl, rfl⟩), Lib.hid (fun w => parse_no s w hs hp), Lib.hid hN⟩
      · rw [e] at hN
        exact ⟨0, 1, n, ⟨#[]⟩, false, .inr (.inr ⟨rfl, rfl, rfl, rfl⟩), Lib.hid (fun w => parse_no s w hs hp), Lib.hid hN⟩
  obtain ⟨m, nk, nn, ns, ok, hpp, HP, HN⟩ := key
  by_cases h1 : s = tTRUE
  · subst h1
    exact walk_textT m nk nn ns ok w ht h hpp HP HN
  by_cases h2 : s = tFALSE
  · subst h2
    exact walk_textF m nk nn ns ok w ht h hpp HP HN
  · exact walk_textO s m nk nn ns ok w ht h h1 h2 hpp HP HN
theorem walk0 (x : RV) (w : World) (h : x.ok) (ht : Tab w) :
    Calls Tryd.prog 5 #[.agg #[.int .i64 x.k, .int .i64 x.n, .string x.s]] w fun e w' => e = .returned (.bool true) ∧ Ext w w' := by
  cases x with
  | blank => exact walk_blank w ht
  | num n =>
    by_cases hn : n = 0
    · subst hn; exact walk_num0 _ w ht h rfl
    · exact walk_num1 n _ w ht h rfl (by simpa using hn)
  | bool b => cases b with
    | false => exact walk_boolF w ht
    | true => exact walk_boolT w ht
  | err c => exact walk_err c _ w ht h ⟨by have := h.1; omega, by have := h.2; omega⟩ rfl
  | text s => exact walk_text s w ht h
set_option maxHeartbeats 1000000 in
set_option maxRecDepth 100000 in
/-- What is too long, or may not be, is passed over. -/
theorem over1 (k n : Int) (s : ByteArray) (w : World) (ht : Tab w) (hs : s.size ≤ 9223372036854775807) (hn : -9223372036854775808 ≤ n ∧ n ≤ 9223372036854775807) (hc : 300 < (s.size : Int) ∨ vr k n s = false) :
    Calls Tryd.prog 5 #[.agg #[.int .i64 k, .int .i64 n, .string s]] w fun e w' => e = .returned (.bool true) ∧ Ext w w' := by
  have HT := Lib.hid ht
  have HL := Lib.hid (fun w => light_any k n s w hs)
  have c2 := fun w => vright_any k n s w hn
  generalize vr k n s = u at *
  have HR := Lib.hid c2
  have key : decide ((ByteArray.size s : Int) ≤ 300) = false ∨ (decide ((ByteArray.size s : Int) ≤ 300) = true ∧ u = false) := by
    by_cases h : (ByteArray.size s : Int) ≤ 300
    · rcases hc with h' | h'
      · omega
      · exact .inr ⟨decide_eq_true h, h'⟩
    · exact .inl (decide_eq_false h)
  clear hc ht c2
  rcases key with h1 | ⟨h1, rfl⟩
  · go_enter Tryd.func5, Tryd.ntmps5
    go_wp2_with fail
    refine (fit_v _ (HT.out.alloc _)).mono ?_
    rintro e w1 ⟨rfl, hE1⟩
    obtain ⟨gc1, gf1⟩ := ecell hE1; have gh1 := bheap hE1; have hz1 := Below.size hE1; simp only [World.size_alloc] at hz1; have hX1 := (ext_dig hE1); have hl1_0 : w.heap.size < w1.heap.size := (by omega); have hm1_0 : w.heap.size < w1.heap.size + 1 := (by omega); have hn1_0 : w.heap.size < w1.heap.size + 1 + 1 := (by omega)
    go_wp2_with fail
    refine (HL.out _).mono ?_
    rintro e w2 ⟨rfl, hE2⟩
    go_wp2_with fail
    go_ret
    exact ⟨rfl, hX1.trans hE2⟩
  · go_enter Tryd.func5, Tryd.ntmps5
    go_wp2_with fail
    refine (fit_v _ (HT.out.alloc _)).mono ?_
    rintro e w1 ⟨rfl, hE1⟩
    obtain ⟨gc1, gf1⟩ := ecell hE1; have gh1 := bheap hE1; have hz1 := Below.size hE1; simp only [World.size_alloc] at hz1; have hX1 := (ext_dig hE1); have hl1_0 : w.heap.size < w1.heap.size := (by omega); have hm1_0 : w.heap.size < w1.heap.size + 1 := (by omega); have hn1_0 : w.heap.size < w1.heap.size + 1 + 1 := (by omega)
    go_wp2_with fail
    refine (HL.out _).mono ?_
    rintro e w2 ⟨rfl, hE2⟩
    have hE3 := Ext.trans hE1 hE2
    clear hE1 hE2 gc1 gf1 gh1 hz1 hX1 hl1_0 hm1_0 hn1_0
    obtain ⟨gc3, gf3⟩ := ecell hE3; have gh3 := bheap hE3; have hz3 := Below.size hE3; simp only [World.size_alloc] at hz3; have hX3 := (ext_dig hE3); have hl3_0 : w.heap.size < w2.heap.size := (by omega); have hm3_0 : w.heap.size < w2.heap.size + 1 := (by omega); have hn3_0 : w.heap.size < w2.heap.size + 1 + 1 := (by omega)
    go_wp2_with fail
    refine (HR.out _).mono ?_
    rintro e w3 ⟨rfl, hE4⟩
    go_wp2_with fail
    go_ret
    exact ⟨rfl, hX3.trans hE4⟩
theorem walk (x : Vl) (w : World) (wx : VW x) (ht : Tab w) :
    Calls Tryd.prog 5 #[.agg #[.int .i64 x.k, .int .i64 x.n, .string x.s]] w fun e w' => e = .returned (.bool true) ∧ Below w.heap.size w w' := by
  by_cases hc : 300 < (x.s.size : Int) ∨ vr x.k x.n x.s = false
  · exact over1 x.k x.n x.s w ht wx.2.2 wx.2.1 hc
  · have hv : vr x.k x.n x.s = true := by
      cases h : vr x.k x.n x.s with
      | true => rfl
      | false => exact absurd (.inr h) hc
    obtain ⟨y, hy, e1, e2, e3⟩ := rv_of hv wx.2.1
    rw [← e1, ← e2, ← e3]
    exact walk0 y w hy ht
end Go.Proofs.YtkkfgobdkbcdhaaDoor.valueTurns
