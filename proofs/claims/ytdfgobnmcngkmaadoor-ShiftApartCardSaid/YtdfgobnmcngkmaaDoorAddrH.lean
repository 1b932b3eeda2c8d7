/-
  addr.Parse at any text: what it leans on, its callees' contracts, and the plain law of what it takes. Conditions: each theorem's own.
-/
import Derived.Test.YtdfgobnmcngkmaaDoorAddrC
import Derived.Lib.AtoiAllCases
import Derived.Lib.AppendIntMem
import Derived.WalkSmall
namespace Go.Proofs.YtdfgobnmcngkmaaDoor
open Go.RowKit
set_option linter.unusedVariables false
set_option linter.unusedSimpArgs false

/-- What Parse leans on: bytealg.MaxLen is a number, the table of powers of ten, the two errors. -/
structure EnvP (w : World) : Prop where
  max : MaxI w
  pow : Lib.TabIs Tryd.prog w "internal/strconv.uint64pow10" .u64 Lib.pow10Tab
  esx : ∃ tp p, w.var? Tryd.prog "strconv.ErrSyntax" = some #[.iface tp p]
  erg : ∃ tp p, w.var? Tryd.prog "strconv.ErrRange" = some #[.iface tp p]
theorem gPow : Tryd.prog.globalNamed "internal/strconv.uint64pow10" = some 5 := by kernel_rfl
theorem gEsx : Tryd.prog.globalNamed "strconv.ErrSyntax" = some 3 := by kernel_rfl
theorem gErg : Tryd.prog.globalNamed "strconv.ErrRange" = some 4 := by kernel_rfl
theorem var_ext {W w : World} {n : String} {g : Nat} {v : Value} {vs : Array Value} (hE : Ext W w) (hg : Tryd.prog.globalNamed n = some g) (hv : W.var? Tryd.prog n = some vs) (h0 : vs[0]? = some v) : w.var? Tryd.prog n = some vs :=
  var?_below hE hg (World.block_lt_of_cell? _ _ ((World.var?_cell hg hv 0).trans h0)) hv
theorem EnvP.ext {W w : World} (h : EnvP W) (hE : Ext W w) : EnvP w := by
  obtain ⟨h1, h2, ⟨a, b, h3⟩, c, d, h4⟩ := h
  exact ⟨h1.ext hE, var_ext hE gPow h2 (v := .int .u64 1) (by rfl), ⟨a, b, var_ext hE gEsx h3 rfl⟩, c, d, var_ext hE gErg h4 rfl⟩
theorem cut_spec (l : List UInt8) : (∃ a b, Lib.cut l [33] = (a, b, true) ∧ l = a ++ 33 :: b) ∨ Lib.cut l [33] = (l, [], false) := by
  rcases Lib.index_spec l [33] with ⟨h, -⟩ | ⟨i, h, hi, ho, -⟩
  · right
    unfold Lib.cut
    rw [h, if_neg (by decide)]
  · left
    refine ⟨l.take i, l.drop (i + 1), ?_, ?_⟩
    · unfold Lib.cut
      rw [h, if_pos (by omega), Int.toNat_natCast]
      rfl
    · have h1 : [33].isPrefixOf (l.drop i) = true := ho
      cases hd : l.drop i with
      | nil => rw [hd] at h1; cases h1
      | cons b r =>
        rw [hd] at h1
        have hb : b = 33 := by simp [List.isPrefixOf] at h1; exact h1.symm
        have hr : l.drop (i + 1) = r := by rw [← List.drop_drop, hd]; rfl
        rw [hr, ← hb, ← hd, List.take_append_drop]
theorem pre_spec (l : List UInt8) : l = dol (Lib.hasPrefix l [36]) ++ Lib.trimPrefix l [36] := by
  unfold Lib.trimPrefix
  cases h : Lib.hasPrefix l [36]
  · rfl
  · have h1 : [36].isPrefixOf l = true := h
    cases l with
    | nil => cases h1
    | cons b r =>
      have hb : b = 36 := by simp [List.isPrefixOf] at h1; exact h1.symm
      rw [hb]; rfl
theorem atoiAny (s : ByteArray) (hs : s.size ≤ 1000) : ∃ (n : Int) (ok : Bool), (ok = true → -9223372036854775808 ≤ n ∧ n ≤ 9223372036854775807) ∧ ∀ w, EnvP w →
    Calls Tryd.prog 53 #[.string s] w fun e w' => (∃ er, e = .returned (.tuple #[.int .i64 n, er]) ∧ if ok then er = .nilIface else ∃ t p, er = .iface t p) ∧ Ext w w' := by
  cases h : Lib.atoiAll s.data.toList with
  | ok v =>
    refine ⟨v, true, fun _ => Lib.atoiAll_bounds h, fun w _ => ?_⟩
    refine (Tryd.strconv_Atoi_ok s (by omega) v h w).mono fun e w' ⟨he, hw⟩ => ⟨⟨_, he, rfl⟩, ?_⟩
    rcases hw with rfl | ⟨t, rfl⟩
    · exact Ext.refl _
    · exact Lib.bytesWorld_below w 5 t
  | range =>
    refine ⟨Lib.atoiSat s.data.toList, false, (fun h => by cases h), fun w hE => ?_⟩
    obtain ⟨tp, p, hv⟩ := hE.erg
    exact (Tryd.strconv_Atoi_range_var s (by omega) h tp p w hv).mono fun e w' ⟨N, he, _, _, hb⟩ => ⟨⟨_, he, _, _, rfl⟩, hb⟩
  | _ =>
    refine ⟨0, false, (fun h => by cases h), fun w hE => ?_⟩
    obtain ⟨tp, p, hv⟩ := hE.esx
    exact (Tryd.strconv_Atoi_syntax_var s (by omega) h tp p w hv).mono fun e w' ⟨N, he, _, _, hb⟩ => ⟨⟨_, he, _, _, rfl⟩, hb⟩
theorem itoaAny (n : Int) (h0 : -9223372036854775808 ≤ n) (h1 : n ≤ 9223372036854775807) (w : World) (hE : EnvP w) :
    Calls Tryd.prog 54 #[.int .i64 n] w fun e w' => e = .returned (.string (mk (Lib.itoa n))) ∧ Ext w w' :=
  (Tryd.strconv_Itoa n h0 h1 w hE.pow).mono fun e w' ⟨he, k, os, hw⟩ => ⟨he, hw ▸ Lib.below_grow _ w (Nat.le_refl _) k os⟩
theorem head_tail {S : ByteArray} {b : UInt8} (h : 0 < S.size) (hb : S[0]'h = b) : S.data.toList = b :: (S.extract 1 S.size).data.toList := by
  obtain ⟨⟨l⟩⟩ := S
  cases l with
  | nil => exact absurd (show 0 < 0 from h) (by omega)
  | cons a r =>
    have : a = b := hb
    rw [this, ByteArray.data_extract]
    show b :: r = b :: (((b :: r).toArray).extract 1 (r.length + 1)).toList
    simp
theorem two_bytes {S : ByteArray} {a b : UInt8} (h : S.size = 2) (h0 : S[0]'(by omega) = a) (h1 : S[1]'(by omega) = b) : S.data.toList = [a, b] := by
  obtain ⟨⟨l⟩⟩ := S
  match l, h with
  | [u, v], _ =>
    have e0 : u = a := h0
    have e1 : v = b := h1
    rw [e0, e1]
/-- What Parse says is so. -/
def Snd (l : List UInt8) (t : Int) (ref : Value) (b : Bool) : Prop :=
  (b = false ∧ ref = refV 0 0 0 false false) ∨ (b = true ∧ ∃ (s c r : Nat) (x y : Bool), (s < 3 ∧ c < 26 ∧ r < 99) ∧ ref = refV s c r x y ∧ (l = fullL s x y c r ∨ (t = (s : Int) ∧ l = bodyL x y c r)))
theorem snd_of {l l1 l2 l3 l4 hd : List UInt8} {t n : Int} {full x y : Bool} {s c r : Nat} (hs : s < 3) (hc : c < 26) (hr : r < 99)
    (h0 : if full then l = hd ++ 33 :: l1 else l = l1) (h1 : l1 = dol x ++ l2) (h2 : l2 = colB c :: l3) (h3 : l3 = dol y ++ l4) (h4 : l4 = Lib.itoa n) (hn : n = ((r + 1 : Nat) : Int))
    (hh : full = true → hd = [83, UInt8.ofNat (49 + s)]) (ht : full = false → t = (s : Int)) : Snd l t (refV s c r x y) true := by
  have hb : l1 = bodyL x y c r := by
    have hd : Lib.itoa n = D2 (r + 1) := by
      unfold Lib.itoa
      rw [hn, if_neg (by omega), Int.toNat_natCast, dec2 _ (by omega)]
    rw [h1, h2, h3, h4, hd]; rfl
  refine .inr ⟨rfl, s, c, r, x, y, ⟨hs, hc, hr⟩, rfl, ?_⟩
  cases full
  · exact .inr ⟨ht rfl, by rw [← hb]; exact h0⟩
  · refine .inl ?_
    have h0' : l = hd ++ 33 :: l1 := h0
    rw [h0', hh rfl, hb]; rfl
end Go.Proofs.YtdfgobnmcngkmaaDoor
