/-
  addr: Print; unlike references have unlike texts; references that came in. Conditions: each theorem's own.
-/
import Derived.Test.YtkbcdnndhglnoaaDoorAddrC
import Derived.Test.YtkbcdnndhglnoaaDoorArgC
import Derived.Laws.StructEq
namespace Go.Proofs.YtkbcdnndhglnoaaDoor
open Go.RowKit Go.Deep Go.ChangeShapes Go.WideShapes Go.Joins
set_option linter.unusedVariables false
set_option linter.unusedSimpArgs false

theorem printref_any (s c r : Nat) (sh : Int) (x y : Bool) (w : World) (hs : s < 3) (hc : c < 26) (hr : r < 99) :
    Calls Tryd.prog 13 #[refV s c r x y, .int .i64 sh] w fun e w' => e = .returned (.string (mk (if (s : Int) = sh then bodyL x y c r else fullL s x y c r))) ∧ Ext w w' :=
  print_core s c r sh x y w hs hc hr _ rfl
theorem printfull_any (s c r : Nat) (x y : Bool) (w : World) (hs : s < 3) (hc : c < 26) (hr : r < 99) :
    Calls Tryd.prog 13 #[refV s c r x y, .int .i64 (-1)] w fun e w' => e = .returned (.string (mk (fullL s x y c r))) ∧ Ext w w' := by
  have := printref_any s c r (-1) x y w hs hc hr
  rwa [if_neg (by omega)] at this
theorem printbody_any (s c r : Nat) (x y : Bool) (w : World) (hs : s < 3) (hc : c < 26) (hr : r < 99) :
    Calls Tryd.prog 13 #[refV s c r x y, .int .i64 s] w fun e w' => e = .returned (.string (mk (bodyL x y c r))) ∧ Ext w w' := by
  have := printref_any s c r s x y w hs hc hr
  rwa [if_pos rfl] at this
theorem aprint_any (s c r : Nat) (w : World) (hs : s < 3) (hc : c < 26) (hr : r < 99) :
    Calls Tryd.prog 15 #[ceV s c r] w fun e w' => e = .returned (.string (mk (fullL s false false c r))) ∧ Ext w w' := by
  have hE := Ext.refl w
  have C1 := Lib.hid (fun w => printfull_any s c r false false w hs hc hr)
  generalize (s : Int) = s' at *
  generalize (c : Int) = c' at *
  generalize (r : Int) = r' at *
  go_enter Tryd.func15, Tryd.ntmps15
  go_wp2_with fail
  refine (C1.out _).mono ?_
  rintro e w1 ⟨rfl, hE1⟩
  go_wp2_with fail
  go_ret
  exact ⟨rfl, ext_dig hE1⟩
theorem dol_inj (x x' : Bool) (b b' : UInt8) (l l' : List UInt8) (hb : b ≠ 36) (hb' : b' ≠ 36) (h : dol x ++ (b :: l) = dol x' ++ (b' :: l')) : x = x' ∧ b = b' ∧ l = l' := by
  cases x <;> cases x' <;> simp only [dol, Bool.false_eq_true, if_true, if_false, List.nil_append, List.cons_append, List.cons.injEq] at h
  · exact ⟨rfl, h.1, h.2⟩
  · exact absurd h.1 hb
  · exact absurd h.1.symm hb'
  · exact ⟨rfl, h.2.1, h.2.2⟩
theorem body_inj {x y x' y' : Bool} {c r c' r' : Nat} (hc : c < 26) (hr : r < 99) (hc' : c' < 26) (hr' : r' < 99) (h : bodyL x y c r = bodyL x' y' c' r') : x = x' ∧ y = y' ∧ c = c' ∧ r = r' := by
  have e1 := colB_nat hc
  have e2 := colB_nat hc'
  have e36 : (36 : UInt8).toNat = 36 := rfl
  obtain ⟨hx, hcc, hl⟩ := dol_inj _ _ _ _ _ _ (by intro e; rw [e] at e1; omega) (by intro e; rw [e] at e2; omega) h
  obtain ⟨b, l, hd, h1, h2⟩ := d2_head (show r + 1 < 100 by omega)
  obtain ⟨b', l', hd', h1', h2'⟩ := d2_head (show r' + 1 < 100 by omega)
  rw [hd, hd'] at hl
  obtain ⟨hy, hbb, hll⟩ := dol_inj _ _ _ _ _ _ (by rintro rfl; omega) (by rintro rfl; omega) hl
  have hD : D2 (r + 1) = D2 (r' + 1) := by rw [hd, hd', hbb, hll]
  have a1 := (d2_facts (r + 1) (by omega)).2.2.2
  have a2 := (d2_facts (r' + 1) (by omega)).2.2.2
  rw [hD, a2] at a1
  have a3 := Option.some.inj a1
  refine ⟨hx, hy, ?_, by omega⟩
  rw [hcc, e2] at e1
  omega
theorem full_inj {s s' c r c' r' : Nat} {x y x' y' : Bool} (hs : s < 3) (hc : c < 26) (hr : r < 99) (hs' : s' < 3) (hc' : c' < 26) (hr' : r' < 99) (h : fullL s x y c r = fullL s' x' y' c' r') : s = s' ∧ x = x' ∧ y = y' ∧ c = c' ∧ r = r' := by
  simp only [fullL, List.cons.injEq, true_and] at h
  obtain ⟨h1, h2⟩ := h
  have e1 : (UInt8.ofNat (49 + s)).toNat = 49 + s := by simp [UInt8.toNat_ofNat']; omega
  have e2 : (UInt8.ofNat (49 + s')).toNat = 49 + s' := by simp [UInt8.toNat_ofNat']; omega
  rw [h1, e2] at e1
  exact ⟨by omega, body_inj hc hr hc' hr' h2⟩
theorem eql_cell (s c r s' c' r' : Int) (w : World) : Sem.run Tryd.prog (binOp .eql 23 (ceV s c r) (ceV s' c' r')) w = .ok (.bool (s == s' && (c == c' && r == r'))) w := by
  by_cases h1 : s = s' <;> by_cases h2 : c = c' <;> by_cases h3 : r = r' <;> simp [go_sem, *]
set_option maxHeartbeats 2000000 in
theorem eql_ref (s c r s' c' r' : Int) (x y x' y' : Bool) (w : World) : Sem.run Tryd.prog (binOp .eql 29 (refV s c r x y) (refV s' c' r' x' y')) w = .ok (.bool ((s == s' && (c == c' && r == r')) && (x == x' && y == y'))) w := by
  by_cases h1 : s = s' <;> by_cases h2 : c = c' <;> by_cases h3 : r = r' <;> cases x <;> cases x' <;> cases y <;> cases y' <;> simp [go_sem, *]
theorem texts_eq (s s' c r c' r' : Nat) (x y x' y' : Bool) (hs : s < 3) (hc : c < 26) (hr : r < 99) (hs' : s' < 3) (hc' : c' < 26) (hr' : r' < 99) :
    ((mk (fullL s x y c r)).toList == (mk (fullL s' x' y' c' r')).toList) = (((s : Int) == (s' : Int) && ((c : Int) == (c' : Int) && (r : Int) == (r' : Int))) && (x == x' && y == y')) := by
  rw [Lib.toList_data, Lib.toList_data, mk_list, mk_list, Bool.eq_iff_iff]
  simp only [beq_iff_eq, Bool.and_eq_true, Int.ofNat_inj]
  constructor
  · intro h
    obtain ⟨h1, h2, h3, h4, h5⟩ := full_inj hs hc hr hs' hc' hr' h
    exact ⟨⟨h1, h4, h5⟩, h2, h3⟩
  · rintro ⟨⟨rfl, rfl, rfl⟩, rfl, rfl⟩; rfl
/-- A reference that came in. -/
structure Rv where
  s : Int
  c : Int
  r : Int
  x : Bool
  y : Bool
section
variable {H : Type} {enc : TypeId × Value → H} {w : World} {base : Nat} {spare : Nat → Bool} {held : Bool}
theorem trod_rv {fuel : Nat} {cs : List Value} {x : DataW H × List MemPlace} (h : DataW.trod enc Tryd.prog w base spare held fuel 29 cs = some x) :
    ∃ v : Rv, cs = [.int .i64 v.s, .int .i64 v.c, .int .i64 v.r, .bool v.x, .bool v.y] := by
  obtain ⟨y0, y1, y2, n, hx, hl, h0, h1, h2⟩ := trod_struct3 Tryd.underlying29 h
  have hC : Tryd.prog.cellsOf 29 = 5 := by kernel_rfl
  have c0 : Tryd.prog.cellsOf 23 = 3 := by kernel_rfl
  have c1 : Tryd.prog.cellsOf 4 = 1 := by kernel_rfl
  rw [hC] at hl
  match cs, hl with
  | [u0, u1, u2, u3, u4], _ =>
    simp [c0, c1] at h0
    simp [c0, c1] at h1
    simp [c0, c1] at h2
    obtain ⟨v, hv, -⟩ := trod_cl h0
    obtain ⟨k, hk, _⟩ := DataW.trod_bool Tryd.underlying4 h1
    obtain ⟨m, hm, _⟩ := DataW.trod_bool Tryd.underlying4 h2
    simp at hv hk hm
    obtain ⟨rfl, rfl, rfl⟩ := hv
    subst hk hm
    exact ⟨⟨v.s, v.c, v.r, k, m⟩, rfl⟩
theorem open_ref {r : Reach} {b0 : Nat} {v : Value} {d : DataW H} {p : List MemPlace} (hv : Value.okWide Tryd.prog w r b0 29 v) (h : DataW.Trod enc Tryd.prog w base spare held 29 v d p) :
    ∃ x : Rv, True ∧ v = refV x.s x.c x.r x.x x.y := by
  obtain ⟨cs, rfl, hsz⟩ := okWide_struct Tryd.underlying29 hv
  obtain ⟨fuel, hf⟩ := h
  obtain ⟨x, hx⟩ := trod_rv hf
  refine ⟨x, trivial, ?_⟩
  simp [Value.cells] at hx
  rw [show cs = cs.toList.toArray by simp, hx]
end
end Go.Proofs.YtkbcdnndhglnoaaDoor
