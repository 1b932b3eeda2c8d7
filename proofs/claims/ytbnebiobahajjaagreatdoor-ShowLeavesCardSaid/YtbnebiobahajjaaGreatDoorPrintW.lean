/-
  num.Print: the walk. Condition: the argument is a mantissa.
-/
import Derived.Test.YtbnebiobahajjaaGreatDoorNumW
import Derived.Test.YtbnebiobahajjaaGreatDoorPrintP
import Derived.Test.YtbnebiobahajjaaGreatDoorBytes
import Derived.BigRegion
namespace Go.Proofs.YtbnebiobahajjaaGreatDoor
open Go.RowKit Num
set_option linter.unusedVariables false

theorem nabs_any (a : Int) (w : World) (ha : -9223372036854775807 ≤ a ∧ a ≤ 9223372036854775807) :
    Calls Tryz.prog 66 #[.int .i64 a] w fun e w' => e = .returned (.int .u64 (a.natAbs : Int)) ∧ w = w' := by
  by_cases h : a < 0
  · have e : (a.natAbs : Int) = -a := by omega
    have e2 : IntKind.u64.wrap (-IntKind.u64.wrap a) = -a := by
      simp [IntKind.wrap, IntKind.bits, IntKind.signed]; omega
    go_enter Tryz.func66, Tryz.ntmps66
    go_wp2
    go_ret
    exact ⟨by rw [e]; rfl, rfl⟩
  · have e : (a.natAbs : Int) = a := by omega
    go_enter Tryz.func66, Tryz.ntmps66
    go_wp2
    go_ret
    exact ⟨by first | rfl | rw [e], rfl⟩

set_option maxHeartbeats 800000 in
theorem print_any (a : Int) (w : World) (ha : -9223372036854775807 ≤ a ∧ a ≤ 9223372036854775807) :
    Calls Tryz.prog 46 #[.int .i64 a] w fun e w' => e = .returned (.string ⟨(txt a).toArray⟩) ∧ Below w.heap.size w w' := by
  obtain ⟨N, hNa⟩ : ∃ N, a.natAbs = N := ⟨_, rfl⟩
  have hN : N ≤ 9223372036854775807 := by omega
  have HN := Lib.hid hNa
  clear hNa
  go_enter Tryz.func46, Tryz.ntmps46
  go_wp2_with fail
  refine (nabs_any a _ ha).mono ?_
  rintro e w' ⟨rfl, rfl⟩
  rw [HN.out]
  go_wp2
  go_loopw [3, 4, 5, 6] (fun sn so st sk wr => ∃ (k n : Nat) (l : List UInt8) (t : Bool), PInv N k n l t ∧ sn = .int .u64 n ∧ wr.ownsRow w.heap.size 5 1 so l.length (bv l) ∧ st = .bool t ∧ sk = .int .i64 k ∧ Below w.heap.size w wr)
    (fun _ _ _ sk _ => 21 - (intOf sk).toNat)
  case atStart =>
    refine ⟨0, N, [], true, PInv_start N, rfl, World.ownsRow_lit _ _ _ (Nat.le_refl _) (by unfold maxLen; omega) rfl, rfl, rfl, ?_⟩
    exact (Below.refl _ _).alloc (Nat.le_refl _) _
  case round =>
    obtain ⟨k, n, l, t, hp, rfl, hown, rfl, rfl, hb⟩ := hrel
    have hsz := hb.size
    have hl20 : l.length ≤ 21 ∧ k ≤ 20 := ⟨by have := hp.2.2.2.1; have := hp.2.2.2.2; omega, hp.2.2.2.1⟩
    obtain ⟨hl20, hk20⟩ := hl20
    have hn : n ≤ 9223372036854775807 := by rw [hp.1]; exact Nat.le_trans (Nat.div_le_self _ _) hN
    have HP := Lib.hid hp
    clear hp
    by_cases hgo : k < 7 ∨ 0 < n
    · have hk19 := PInv_k (by omega) HP.out hgo
      by_cases hk6 : k < 6
      · have hne : ((k : Int) == 6) = false := by simp; omega
        have hlt : (k : Int) < 7 := by omega
        by_cases hd : t = true ∧ n % 10 = 0
        · obtain ⟨rfl, hd⟩ := hd
          have hp' := Lib.hid (PInv_skip HP.out hk6 rfl hd)
          have hd' : (((n : Int) % 10) == 0) = true := by simp; omega
          clear hd
          go_wp2
          go_roundw
          case rel => exact ⟨k + 1, n / 10, l, true, hp'.out, by go_num, hown, rfl, by go_num, hb⟩
          case measure => simp [intOf]; omega
        · have hd0 : t = false ∨ n % 10 ≠ 0 := by
            by_cases h1 : t = true
            · exact .inr fun h2 => hd ⟨h1, h2⟩
            · exact .inl (by simpa using h1)
          have hp' := Lib.hid (PInv_dig HP.out hk6 hd0)
          have hd' : t = true → (((n : Int) % 10) == 0) = false := by
            intro h1; have : n % 10 ≠ 0 := fun h2 => hd ⟨h1, h2⟩
            simp; omega
          clear hd hd0
          have e48 : (48 + (n : Int) % 10) = ((UInt8.ofNat (48 + n % 10)).toNat : Int) := by rw [u8_dig _ (Nat.mod_lt _ (by omega))]; omega
          have E48 := Lib.hid e48
          clear e48
          cases t <;> (try have hd' := hd' rfl)
          all_goals
            go_wp2_with (at_builtin; refine app_byte rfl _ _ rfl _ l rfl hown hb _ _ E48.out rfl (by omega) ?_; intro v' w1 hown' hb' _)
            go_roundw
            case rel => exact ⟨k + 1, n / 10, _, _, hp'.out, by go_num, hown', rfl, by go_num, hb'⟩
            case measure => simp [intOf]; omega
      · by_cases hk6' : k = 6
        · have he : ((k : Int) == 6) = true := by simp; omega
          have hlt : (k : Int) < 7 := by omega
          have e48 : (48 + (n : Int) % 10) = ((UInt8.ofNat (48 + n % 10)).toNat : Int) := by rw [u8_dig _ (Nat.mod_lt _ (by omega))]; omega
          have E48 := Lib.hid e48
          cases t
          · have hp' : Hid (PInv N (k + 1) (n / 10) (l ++ [46] ++ [UInt8.ofNat (48 + n % 10)]) false) := by subst hk6'; exact PInv_point HP.out rfl
            have E46 : Hid ((46 : Int) = ((46 : UInt8).toNat : Int)) := rfl
            clear e48 hk6'
            go_wp2_with (first | (at_builtin; refine app_byte rfl (.tmp 25) (.tmp 26) rfl _ l rfl hown hb _ _ E46.out rfl (by omega) ?_; intro v1 w1 hown1 hb1 _) | (at_builtin; refine app_byte rfl (.tmp 38) (.tmp 41) rfl _ _ rfl hown1 hb1 _ _ E48.out rfl (by simp; omega) ?_; intro v' w2 hown' hb' _))
            go_roundw
            case rel => exact ⟨k + 1, n / 10, _, _, hp'.out, by go_num, hown', rfl, by go_num, hb'⟩
            case measure => simp [intOf]; omega
          · have hp' : Hid (PInv N (k + 1) (n / 10) (l ++ [UInt8.ofNat (48 + n % 10)]) false) := by subst hk6'; exact PInv_first HP.out rfl
            clear e48 hk6'
            go_wp2_with (at_builtin; refine app_byte rfl (.tmp 38) (.tmp 41) rfl _ l rfl hown hb _ _ E48.out rfl (by omega) ?_; intro v' w1 hown' hb' _)
            go_roundw
            case rel => exact ⟨k + 1, n / 10, _, _, hp'.out, by go_num, hown', rfl, by go_num, hb'⟩
            case measure => simp [intOf]; omega
        · have hne : ((k : Int) == 6) = false := by simp; omega
          have hn0 : 0 < n := by omega
          have hk7 : 7 ≤ k := by omega
          have hp' := Lib.hid (PInv_whole (by omega) HP.out hk7 hn0)
          have ht := (HP.out.2.2.1 hk7).2
          subst ht
          have e48 : (48 + (n : Int) % 10) = ((UInt8.ofNat (48 + n % 10)).toNat : Int) := by rw [u8_dig _ (Nat.mod_lt _ (by omega))]; omega
          have E48 := Lib.hid e48
          clear e48 hgo
          go_wp2_with (at_builtin; refine app_byte rfl (.tmp 38) (.tmp 41) rfl _ l rfl hown hb _ _ E48.out rfl (by omega) ?_; intro v' w1 hown' hb' _)
          go_roundw
          case rel => exact ⟨k + 1, n / 10, _, _, hp'.out, by go_num, hown', rfl, by go_num, hb'⟩
          case measure => simp [intOf]; omega
    · have hk7 : 7 ≤ k := by omega
      have hn0 : n = 0 := by omega
      have HT := Lib.hid (PInv_end HP.out hk7 hn0)
      subst hn0
      clear hgo
      have hs0 : l ≠ [] := fun e => by
        have h1 := HT.out
        obtain ⟨c, l', e2, _⟩ := txtAbs_head N
        rw [e, e2] at h1
        cases h1
      by_cases hs : a < 0
      · have E45 : Hid ((45 : Int) = ((45 : UInt8).toNat : Int)) := rfl
        go_wp2_with (at_builtin; refine app_byte rfl (.tmp 45) (.tmp 46) rfl _ l rfl hown hb _ _ E45.out rfl (by omega) ?_; intro v' w1 hown' hb' _; obtain ⟨L, hL⟩ : ∃ L, l ++ [45] = L := ⟨_, rfl⟩; rw [hL] at hown'; have HL := Lib.hid hL; clear hL; have hLn : L ≠ [] := (by rw [← HL.out]; simp); obtain ⟨g, cap, rfl, hgB, hgw, hcap⟩ := own_addr hown' hLn; have hLp : 0 < L.length := List.length_pos_iff.2 hLn; have hLm : L.length ≤ 22 := (by rw [← HL.out]; simp; omega); clear hLn; have HR : Hid (L.reverse = txt a) := (by show _ = _; unfold txt; rw [if_pos hs, ← HL.out, HN.out, HT.out]; simp))
        go_loopw [8, 9] (fun si sj wr2 => ∃ (i j : Nat) (X : List UInt8), i + j + 1 = L.length ∧ i ≤ j + 1 ∧ si = .int .i64 i ∧ sj = .int .i64 j ∧ RInv L i X ∧ wr2.ownsRow w.heap.size 5 1 (.slice (some ⟨g, 0, none⟩) L.length cap) L.length (bv X) ∧ Below w.heap.size w wr2) (fun si _ _ => L.length - (intOf si).toNat)
        case atStart => exact ⟨0, L.length - 1, L, by omega, by omega, rfl, by go_num, RInv_start L, hown', hb'⟩
        case round =>
          obtain ⟨i, j, X, hij, hle, rfl, rfl, hri, hox, hbx⟩ := hrel
          have hX := hri.1
          have HR2 := Lib.hid hri
          clear hri
          by_cases hlt : i < j
          · obtain ⟨xi, hxi⟩ : ∃ x, X.getD i 0 = x := ⟨_, rfl⟩
            obtain ⟨xj, hxj⟩ : ∃ x, X.getD j 0 = x := ⟨_, rfl⟩
            have hci := own_cell hox hX i (by omega)
            have hcj := own_cell hox hX j (by omega)
            rw [hxi] at hci
            rw [hxj] at hcj
            have hfi := hox.frozenAt i
            have hfj := hox.frozenAt j
            have h1 : (i : Int) < (j : Int) := by omega
            have h2 : (i : Int) < (L.length : Int) := by omega
            have h3 : (j : Int) < (L.length : Int) := by omega
            have HX := Lib.hid (RInv_step' HR2.out hij hlt)
            rw [hxi, hxj] at HX
            have HO : Hid (((wr.setCell ⟨g, i, none⟩ (.int .u8 (xj.toNat : Int))).setCell ⟨g, j, none⟩ (.int .u8 (xi.toNat : Int))).ownsRow w.heap.size 5 1 (.slice (some ⟨g, 0, none⟩) L.length cap) L.length (bv ((X.set i xj).set j xi))) := own_set (own_set hox i xj) j xi
            have HB : Hid (Below w.heap.size w ((wr.setCell ⟨g, i, none⟩ (.int .u8 (xj.toNat : Int))).setCell ⟨g, j, none⟩ (.int .u8 (xi.toNat : Int)))) := (hbx.setCell (p := ⟨g, i, none⟩) hgB _).setCell (p := ⟨g, j, none⟩) hgB _
            have HIJ := Lib.hid hij
            clear hxi hxj hX hij hox hbx
            go_wp2
            go_region
            all_goals
              go_wp2
              go_roundw
              case rel => exact ⟨i + 1, j - 1, _, by have := HIJ.out; omega, by omega, by go_num, by go_num, HX.out, HO.out.drew, HB.out.drew⟩
              case measure => simp [intOf]; omega
          · have h1 : ¬ (i : Int) < (j : Int) := by omega
            have HE := Lib.hid (RInv_end' HR2.out hij hlt)
            have hcv := own_text hox hX
            have HIJ := Lib.hid hij
            clear hX hij
            go_wp2
            go_ret
            exact ⟨by rw [HE.out, HR.out]; rfl, hbx⟩
      · obtain ⟨g, cap, rfl, hgB, hgw, hcap⟩ := own_addr hown hs0
        have HR : Hid (l.reverse = txt a) := by show _ = _; unfold txt; rw [if_neg hs, HN.out, HT.out]
        have hLp : 0 < l.length := List.length_pos_iff.2 hs0
        clear hs0
        go_wp2
        go_loopw [8, 9] (fun si sj wr2 => ∃ (i j : Nat) (X : List UInt8), i + j + 1 = l.length ∧ i ≤ j + 1 ∧ si = .int .i64 i ∧ sj = .int .i64 j ∧ RInv l i X ∧ wr2.ownsRow w.heap.size 5 1 (.slice (some ⟨g, 0, none⟩) l.length cap) l.length (bv X) ∧ Below w.heap.size w wr2) (fun si _ _ => l.length - (intOf si).toNat)
        case atStart => exact ⟨0, l.length - 1, l, by omega, by omega, rfl, by go_num, RInv_start l, hown, hb⟩
        case round =>
          obtain ⟨i, j, X, hij, hle, rfl, rfl, hri, hox, hbx⟩ := hrel
          have hX := hri.1
          have HR2 := Lib.hid hri
          clear hri
          by_cases hlt : i < j
          · obtain ⟨xi, hxi⟩ : ∃ x, X.getD i 0 = x := ⟨_, rfl⟩
            obtain ⟨xj, hxj⟩ : ∃ x, X.getD j 0 = x := ⟨_, rfl⟩
            have hci := own_cell hox hX i (by omega)
            have hcj := own_cell hox hX j (by omega)
            rw [hxi] at hci
            rw [hxj] at hcj
            have hfi := hox.frozenAt i
            have hfj := hox.frozenAt j
            have h1 : (i : Int) < (j : Int) := by omega
            have h2 : (i : Int) < (l.length : Int) := by omega
            have h3 : (j : Int) < (l.length : Int) := by omega
            have HX := Lib.hid (RInv_step' HR2.out hij hlt)
            rw [hxi, hxj] at HX
            have HO : Hid (((wr.setCell ⟨g, i, none⟩ (.int .u8 (xj.toNat : Int))).setCell ⟨g, j, none⟩ (.int .u8 (xi.toNat : Int))).ownsRow w.heap.size 5 1 (.slice (some ⟨g, 0, none⟩) l.length cap) l.length (bv ((X.set i xj).set j xi))) := own_set (own_set hox i xj) j xi
            have HB : Hid (Below w.heap.size w ((wr.setCell ⟨g, i, none⟩ (.int .u8 (xj.toNat : Int))).setCell ⟨g, j, none⟩ (.int .u8 (xi.toNat : Int)))) := (hbx.setCell (p := ⟨g, i, none⟩) hgB _).setCell (p := ⟨g, j, none⟩) hgB _
            have HIJ := Lib.hid hij
            clear hxi hxj hX hij hox hbx
            go_wp2
            go_region
            all_goals
              go_wp2
              go_roundw
              case rel => exact ⟨i + 1, j - 1, _, by have := HIJ.out; omega, by omega, by go_num, by go_num, HX.out, HO.out.drew, HB.out.drew⟩
              case measure => simp [intOf]; omega
          · have h1 : ¬ (i : Int) < (j : Int) := by omega
            have HE := Lib.hid (RInv_end' HR2.out hij hlt)
            have hcv := own_text hox hX
            have HIJ := Lib.hid hij
            clear hX hij
            go_wp2
            go_ret
            exact ⟨by rw [HE.out, HR.out]; rfl, hbx⟩

end Go.Proofs.YtbnebiobahajjaaGreatDoor
