/-
  parse: what the parser calls of other packages: references, names, errors, numbers. Conditions: each theorem's own.
-/
import Derived.Test.YtffogjhjgmohiaaDoorParB
import Derived.Test.YtffogjhjgmohiaaDoorBitsX
namespace Go.Proofs.YtffogjhjgmohiaaDoor
open Go.RowKit
set_option linter.unusedVariables false
set_option linter.unusedSimpArgs false

/-! ### References, in plain words -/
theorem u8_of {c : UInt8} {n : Nat} (h : c.toNat = n) (hn : n < 256) : c = UInt8.ofNat n := UInt8.toNat.inj (by rw [h, UInt8.toNat_ofNat']; omega)
theorem dolF_spec (l : List UInt8) : l = dol (dolF l).1 ++ (dolF l).2 := by
  cases l with
  | nil => rfl
  | cons c r =>
    by_cases h : c.toNat = 36
    · have hc : c = 36 := UInt8.toNat.inj h
      subst hc
      rfl
    · simp [dolF, h, dol]
theorem dolF_app (x : Bool) (c : UInt8) (r : List UInt8) (h : c.toNat ≠ 36) : dolF (dol x ++ c :: r) = (x, c :: r) := by
  cases x
  · simp [dol, dolF, h]
  · simp [dol, dolF]
theorem digF_spec {l : List UInt8} {n : Nat} (h : digF l = some n) : 1 ≤ n ∧ n ≤ 99 ∧ l = D2 n := by
  match l, h with
  | [d], h =>
    simp only [digF] at h
    split at h
    · rename_i hd
      simp only [Bool.and_eq_true, decide_eq_true_eq] at hd
      injection h with h
      subst h
      refine ⟨by omega, by omega, ?_⟩
      rw [D2, if_pos (by omega), u8_of (n := d.toNat) rfl (by omega)]
      congr 2
      simp only [UInt8.toNat_ofNat']
      omega
    · cases h
  | [d, e], h =>
    simp only [digF] at h
    split at h
    · rename_i hd
      simp only [Bool.and_eq_true, decide_eq_true_eq] at hd
      injection h with h
      refine ⟨by omega, by omega, ?_⟩
      rw [D2, if_neg (by omega)]
      congr 1
      · exact u8_of (by omega) (by omega)
      · congr 1
        exact u8_of (by omega) (by omega)
    · cases h
theorem digF_D2 : ∀ q, q < 99 → digF (D2 (q + 1)) = some (q + 1) := by
  have h : ((List.range 99).all fun q => decide (digF (D2 (q + 1)) = some (q + 1))) = true := by decide +kernel
  exact fun q hq => of_decide_eq_true (List.all_eq_true.1 h q (List.mem_range.2 hq))
theorem D2_head : ∀ q, q < 99 → ∃ c r, D2 (q + 1) = c :: r ∧ c.toNat ≠ 36 := by
  intro q hq
  unfold D2
  split
  · exact ⟨_, _, rfl, by simp only [UInt8.toNat_ofNat']; omega⟩
  · exact ⟨_, _, rfl, by simp only [UInt8.toNat_ofNat']; omega⟩
theorem bodyF_of {l : List UInt8} {s : Nat} {r : Rf} (h : bodyF l s = some r) : ∃ (c q : Nat) (x y : Bool), (c < 26 ∧ q < 99) ∧ r = ⟨(s : Int), (c : Int), (q : Int), x, y⟩ ∧ l = bodyL x y c q := by
  unfold bodyF at h
  have hl := dolF_spec l
  cases h2 : (dolF l).2 with
  | nil => rw [h2] at h; cases h
  | cons c r2 =>
    rw [h2] at h hl
    simp only at h
    split at h
    · rename_i hc
      simp only [Bool.and_eq_true, decide_eq_true_eq] at hc
      cases hd : digF (dolF r2).2 with
      | none => rw [hd] at h; cases h
      | some n =>
        rw [hd] at h
        obtain ⟨h1, h99, hD⟩ := digF_spec hd
        simp only [Option.map_some, Option.some.injEq] at h
        refine ⟨c.toNat - 65, n - 1, (dolF l).1, (dolF r2).1, ⟨by omega, by omega⟩, h.symm, ?_⟩
        have hr2 := dolF_spec r2
        rw [hD] at hr2
        have hcol : colB (c.toNat - 65) = c := (u8_of (n := 65 + (c.toNat - 65)) (by omega) (by omega)).symm
        rw [bodyL, show n - 1 + 1 = n by omega, hcol, ← hr2]
        exact hl
    · cases h
theorem bodyF_body (x y : Bool) {c q : Nat} (s : Nat) (hc : c < 26) (hq : q < 99) : bodyF (bodyL x y c q) s = some ⟨(s : Int), (c : Int), (q : Int), x, y⟩ := by
  have hb := colB_nat hc
  obtain ⟨d, r, hD, h36⟩ := D2_head q hq
  have h1 : dolF (bodyL x y c q) = (x, colB c :: (dol y ++ D2 (q + 1))) := dolF_app x _ _ (by omega)
  have h2 : dolF (dol y ++ D2 (q + 1)) = (y, D2 (q + 1)) := by rw [hD]; exact dolF_app y _ _ h36
  unfold bodyF
  rw [h1]
  simp only [h2, digF_D2 q hq, hb, Option.map_some]
  rw [if_pos (by simp; omega)]
  simp
theorem refF_full (x y : Bool) {s c q : Nat} (t : Nat) (hs : s < 3) (hc : c < 26) (hq : q < 99) : refF (fullL s x y c q) t = some ⟨(s : Int), (c : Int), (q : Int), x, y⟩ := by
  have h1 : (UInt8.ofNat (49 + s)).toNat = 49 + s := by simp only [UInt8.toNat_ofNat']; omega
  unfold refF fullL
  simp only [h1]
  rw [if_pos (by decide), if_pos (by simp; omega), bodyF_body x y _ hc hq]
  simp
theorem refF_body (x y : Bool) {c q : Nat} (t : Nat) (hc : c < 26) (hq : q < 99) : refF (bodyL x y c q) t = some ⟨(t : Int), (c : Int), (q : Int), x, y⟩ := by
  have hn := body_no x y hc hq
  rw [← bodyF_body x y t hc hq]
  generalize bodyL x y c q = l at hn
  match l, hn with
  | [], _ => rfl
  | [_], _ => rfl
  | [_, _], _ => rfl
  | a :: b :: d :: r, hn =>
    have hd : d.toNat ≠ 33 := fun e => hn (by rw [show (33 : UInt8) = d from UInt8.toNat.inj e.symm]; simp)
    simp [refF, hd]
theorem refF_of {l : List UInt8} {t : Nat} {r : Rf} (ht : t < 3) (h : refF l t = some r) : ∃ (s c q : Nat) (x y : Bool), (s < 3 ∧ c < 26 ∧ q < 99) ∧ r = ⟨(s : Int), (c : Int), (q : Int), x, y⟩ ∧ (l = fullL s x y c q ∨ (t = s ∧ l = bodyL x y c q)) := by
  have hbody : ∀ m, bodyF m t = some r → ∃ (s c q : Nat) (x y : Bool), (s < 3 ∧ c < 26 ∧ q < 99) ∧ r = ⟨(s : Int), (c : Int), (q : Int), x, y⟩ ∧ (m = fullL s x y c q ∨ (t = s ∧ m = bodyL x y c q)) := by
    intro m hm
    obtain ⟨c, q, x, y, ⟨h1, h2⟩, h3, h4⟩ := bodyF_of hm
    exact ⟨t, c, q, x, y, ⟨ht, h1, h2⟩, h3, .inr ⟨rfl, h4⟩⟩
  match l, h with
  | [], h => exact hbody _ h
  | [_], h => exact hbody _ h
  | [_, _], h => exact hbody _ h
  | a :: b :: d :: m, h =>
    simp only [refF] at h
    split at h
    · rename_i had
      simp only [Bool.and_eq_true, beq_iff_eq] at had
      split at h
      · rename_i hb
        simp only [Bool.and_eq_true, decide_eq_true_eq] at hb
        obtain ⟨c, q, x, y, ⟨h1, h2⟩, h3, h4⟩ := bodyF_of h
        refine ⟨b.toNat - 49, c, q, x, y, ⟨by omega, h1, h2⟩, h3, .inl ?_⟩
        rw [fullL, ← h4, show a = 83 from UInt8.toNat.inj had.1, show d = 33 from UInt8.toNat.inj had.2]
        congr 2
        exact u8_of (by omega) (by omega)
      · cases h
    · exact hbody _ h
theorem refF_none {l : List UInt8} {t : Nat} (h : refF l t = none) : ¬ IsRefP l t := by
  rintro ⟨s, c, q, x, y, ⟨h1, h2, h3⟩, rfl | ⟨_, rfl⟩⟩
  · rw [refF_full x y t h1 h2 h3] at h; cases h
  · rw [refF_body x y t h2 h3] at h; cases h
/-- addr.Parse, at any text. -/
def RefP (l : List UInt8) (t : Nat) (W : World) (e : Ending) (w' : World) : Prop :=
  (∃ r, refF l t = some r ∧ e = .returned (.tuple #[r.val, .bool true]) ∧ Ext W w') ∨ (refF l t = none ∧ e = .returned (.tuple #[rf0.val, .bool false]) ∧ Ext W w')
theorem addr_any (l : List UInt8) (t : Nat) (w : World) (hl : l.length ≤ 1000) (ht : t < 3) (hE : EnvP w) : Calls Tryd.prog 58 #[.string (mk l), .int .i64 (t : Int)] w (RefP l t w) := by
  cases h : refF l t with
  | some r =>
    obtain ⟨s, c, q, x, y, ⟨h1, h2, h3⟩, rfl, rfl | ⟨rfl, rfl⟩⟩ := refF_of ht h
    · exact (parse_full x y t s c q w hE.max h1 h2 h3).mono fun e w' ⟨he, hw⟩ => .inl ⟨_, h, he, hw⟩
    · exact (parse_body x y t c q w hE.max ht h2 h3).mono fun e w' ⟨he, hw⟩ => .inl ⟨_, h, he, hw⟩
  | none =>
    have hn := refF_none h
    refine (parse_sound (mk l) t w (by rw [mk_size]; exact hl) hE).mono fun e w' ⟨⟨ref, b, he, hS⟩, hw⟩ => .inr ⟨h, ?_, hw⟩
    rcases hS with ⟨rfl, rfl⟩ | ⟨rfl, s', c, r, x, y, hb, hr, hl'⟩
    · exact he
    · rw [mk_list] at hl'
      exact absurd ⟨s', c, r, x, y, hb, hl'⟩ hn
def parV (l : List UInt8) (t : Nat) : Value := match refF l t with
  | some r => .tuple #[r.val, .bool true]
  | none => .tuple #[rf0.val, .bool false]
theorem addr_e (l : List UInt8) (t : Nat) (W : World) (hl : l.length ≤ 1000) (ht : t < 3) (hE : EnvP W) : CallE Tryd.prog W 58 #[.string (mk l), .int .i64 (t : Int)] (parV l t) := by
  intro w hw
  refine (addr_any l t w hl ht (hE.ext hw)).mono ?_
  rintro e w' (⟨r, h, he, hx⟩ | ⟨h, he, hx⟩)
  · exact ⟨by rw [parV, h]; exact he, hx⟩
  · exact ⟨by rw [parV, h]; exact he, hx⟩
theorem isRef_eq (l : List UInt8) (t : Nat) (ht : t < 3) : isRef l t = (refF l t).isSome := by
  cases h : refF l t with
  | none => exact isRef_false (refF_none h)
  | some r =>
    obtain ⟨s, c, q, x, y, h1, -, h2⟩ := refF_of ht h
    refine isRef_true ⟨s, c, q, x, y, h1, ?_⟩
    rcases h2 with h2 | ⟨h2, h3⟩
    · exact .inl h2
    · exact .inr ⟨by rw [h2], h3⟩
theorem nameF_eq (l : List UInt8) : isNameV l = nameF l := by
  unfold isNameV nameF
  rw [show isRef l 0 = (refF l 0).isSome from isRef_eq l 0 (by omega)]
theorem isname_at (l : List UInt8) (w : World) (hl : l.length ≤ 1000) (hE : EnvQ w) : Calls Tryd.prog 44 #[.string (mk l)] w fun e w' => e = .returned (.bool (nameF l)) ∧ Ext w w' := by
  have h := isname_any (mk l) w (by rw [mk_size]; omega) hE.1 hE.2
  rwa [mk_list, nameF_eq] at h
/-! ### Errors -/
theorem errNo_at {x : List UInt8} {i : Nat} (hx : errLit[i]? = some x) (hb : ∀ j, j < i → ∀ y, errLit[j]? = some y → y ≠ x) : errNo x = i + 1 := by
  have h : errLit.findIdx? (· == x) = some i := by
    rw [List.findIdx?_eq_some_iff_getElem]
    have hi := (List.getElem?_eq_some_iff.1 hx).1
    refine ⟨hi, by rw [(List.getElem?_eq_some_iff.1 hx).2]; simp, fun j hj => ?_⟩
    have := hb j hj _ (List.getElem?_eq_getElem (by omega))
    simpa using this
  unfold errNo
  rw [h]
theorem errNo_no {x : List UInt8} (hb : ∀ j, j < 7 → ∀ y, errLit[j]? = some y → y ≠ x) : errNo x = 0 := by
  have h : errLit.findIdx? (· == x) = none := by
    rw [List.findIdx?_eq_none_iff]
    intro y hy
    obtain ⟨j, hj⟩ := List.mem_iff_getElem?.1 hy
    have := hb j (by have := (List.getElem?_eq_some_iff.1 hj).1; rwa [show errLit.length = 7 from rfl] at this) y hj
    simpa using this
  unfold errNo
  rw [h]
theorem en_cells : (#[.string en1, .string en2, .string en3, .string en4, .string en5, .string en6, .string en7] : Array Value) = (errLit.map fun l => Value.string ⟨l.toArray⟩).toArray := rfl
theorem errNo_le (l : List UInt8) : errNo l ≤ 7 := by
  unfold errNo
  cases h : errLit.findIdx? (· == l) with
  | none => exact Nat.zero_le _
  | some i =>
    have := (List.findIdx?_eq_some_iff_getElem.1 h).1
    rw [show errLit.length = 7 from rfl] at this
    exact this
set_option maxRecDepth 100000 in
set_option maxHeartbeats 4000000 in
theorem errof_any (l : List UInt8) (w : World) (ht : Tab w) : Calls Tryd.prog 52 #[.string (mk l)] w fun e w' => (∃ b, e = .returned (.tuple #[.int .i64 (errNo l : Int), .bool b])) ∧ Ext w w' := by
  have HC := Lib.hid (en_call w ht)
  clear ht
  go_enter Tryd.func52, Tryd.ntmps52
  go_wp2_with fail
  refine HC.out.mono ?_
  rintro e w1 ⟨rfl, hw1⟩
  have HX := Lib.hid (show Ext w w1 by rw [hw1]; exact below_alloc1 _ _)
  have HG : Hid (w1.heap[w.heap.size]? = some (.cells (errLit.map fun l => Value.string ⟨l.toArray⟩).toArray 9 (0, 0))) := Lib.hid (by rw [hw1, en_cells]; exact hq_at _ _ rfl)
  clear hw1
  go_wp2_with fail
  go_loopw [4, 5, 8] (fun _ _ si wr => ∃ j : Nat, j ≤ 7 ∧ si = .int .i64 (j : Int) ∧ Hid (∀ k, k < j → ∀ y, errLit[k]? = some y → y ≠ l) ∧ Hid (Ext w1 wr)) (fun _ _ si _ => 7 - (intOf si).toNat)
  case atStart => exact ⟨0, Nat.zero_le _, rfl, Lib.hid (fun j hj => absurd hj (by omega)), Lib.hid (Ext.refl _)⟩
  case round =>
    obtain ⟨j, hj, rfl, HNJ, HXq⟩ := hrel
    by_cases hj7 : j = 7
    · subst hj7
      have HE : Hid (errNo l = 0) := Lib.hid (errNo_no HNJ.out)
      go_wp2_with fail
      go_ret2
      exact ⟨⟨_, by rw [HE.out]; rfl⟩, HX.out.trans HXq.out⟩
    have hjM' : j < 7 := by omega
    have hjI : (j : Int) < 7 := by omega
    have HJM := Lib.hid hjM'
    obtain ⟨y, hy⟩ : ∃ y, errLit[j]? = some y := ⟨_, List.getElem?_eq_getElem (by rw [show errLit.length = 7 from rfl]; exact hjM')⟩
    have hcy : wr.cell? ⟨w.heap.size, j, none⟩ = some (.string (mk y)) := by
      rw [cell_of_row wr w.heap.size j _ _ _ (HXq.out.blk HG.out), List.getElem?_toArray, List.getElem?_map, hy]
      rfl
    have HY1 := Lib.hid hy
    clear hy hj7
    by_cases hys : y = l
    case neg =>
      have hne := mk_ne hys
      have HN2 : Hid (∀ k, k < j + 1 → ∀ z, errLit[k]? = some z → z ≠ l) := Lib.hid (fun k hk z hz => by
        by_cases hkj : k = j
        · subst hkj; rw [HY1.out] at hz; cases hz; exact hys
        · exact HNJ.out k (by omega) z hz)
      clear hys
      go_wp2_with fail
      exact ⟨⟨j + 1, HJM.out, rfl, HN2, HXq⟩, by have := HJM.out; simp [intOf]; omega⟩
    have HNO : Hid (errNo l = j + 1) := Lib.hid (errNo_at (by rw [HY1.out, hys]) HNJ.out)
    rw [hys] at hcy
    clear hys
    go_wp2_with fail
    go_ret2
    exact ⟨⟨_, by rw [HNO.out]; rfl⟩, HX.out.trans HXq.out⟩
/-! ### Numbers -/
def NumP (l : List UInt8) (W : World) (e : Ending) (w' : World) : Prop :=
  (∃ n : Nat, Num.parse l = some n ∧ e = .returned (.tuple #[.int .i64 (n : Int), .bool true]) ∧ Ext W w') ∨ (Num.parse l = none ∧ e = .returned (.tuple #[.int .i64 0, .bool false]) ∧ Ext W w')
theorem num_any (l : List UInt8) (w : World) (hl : l.length ≤ 1000) : Calls Tryd.prog 48 #[.string (mk l)] w (NumP l w) := by
  refine (parse_any (mk l) w (by rw [mk_size]; omega)).mono ?_
  rintro e w' ⟨h1, h2, h3⟩
  rw [mk_list] at h1 h2
  cases h : Num.parse l with
  | none => exact .inr ⟨h, h2 h, h3⟩
  | some n => exact .inl ⟨n, h, h1 n h, h3⟩
/-! ### A text's value -/
theorem vtext_short (l : List UInt8) (w : World) (hl : l.length ≤ 64) : Calls Tryd.prog 51 #[.string (mk l)] w fun e w' => e = .returned (vlV 2 0 (mk l)) ∧ Ext w w' :=
  (vtext_yes (mk l) w (by rw [mk_size]; exact hl)).mono fun _ _ h => h
end Go.Proofs.YtffogjhjgmohiaaDoor
