/-
  ListsSkips: walk. Conditions: the arguments' own.
-/
import Derived.Test.YtpnnjmckjipacaaLPlain
import Derived.Test.YtpnnjmckjipacaaSettled
namespace Go.Proofs.Ytpnnjmckjipacaa.listsSkips
open Go.RowKit Num
set_option linter.unusedVariables false

theorem nums_own (L : List Vl) : nums (L.filter fun v => v.k == 1) = nums L := by unfold nums; rw [List.filter_filter]; simp

set_option maxHeartbeats 1600000 in
theorem walk (a : Option Addr) (len cap : Nat) (L : List Vl) (w : World) (hL : VArg w a len cap L) :
    Calls Try.prog 7 #[.slice a len cap] w fun e w' => e = .returned (.bool true) ∧ Below w.heap.size w w' := by
  go_enter Try.func7, Try.ntmps7
  go_wp2_with fail
  refine (fit_any _).mono ?_
  rintro e w1 ⟨rfl, hb1⟩
  go_wp2_with fail
  refine (light_any a len cap L _ ⟨hL.1.below hb1, hL.2⟩).mono ?_
  rintro e w2 ⟨u, rfl, hb2', hlA⟩
  have hb2 := hb1.th hb2'
  have hv2 := hL.1.below hb2
  clear hb1 hb2'
  cases u
  · go_wp2
    go_ret
    exact ⟨rfl, hb2⟩
  have hlA := hlA (by trivial)
  have hmL := light_mants hL hlA
  have h100 := hlA.1
  have hlen := hL.1.1
  have HML := Lib.hid hmL
  clear hlA hmL
  obtain ⟨p, hp⟩ : ∃ p, (fun v : Vl => v.k == 1) = p := ⟨_, rfl⟩
  have hpe : ∀ v : Vl, p v = (v.k == 1) := fun v => by rw [← hp]
  have HP := Lib.hid hp
  have HPE := Lib.hid hpe
  clear hp hpe
  go_wp2_with fail
  go_loopw [3, 13] (fun so si wr => ∃ i : Nat, i ≤ len ∧ si = .int .i64 (i : Int) ∧ wr.ownsRow w2.heap.size 26 3 so ((L.take i).filter p).length (vcells ((L.take i).filter p)) ∧ Below w2.heap.size w2 wr) (fun _ si _ => len - (intOf si).toNat)
  case atStart => exact ⟨0, by omega, rfl, World.ownsRow_nil _ _ _ _, Below.refl _ _⟩
  case round =>
    obtain ⟨i, hi, rfl, hown, hbW2⟩ := hrel
    have hcl : ((L.take i).filter p).length ≤ 100 := by have := List.length_filter_le p (L.take i); rw [List.length_take] at this; omega
    by_cases hlt : i < len
    · obtain ⟨b, off, rfl, hB, hc⟩ := (hv2.below hbW2).2 (by omega)
      obtain ⟨h1, h2, h3⟩ := hc i (by omega)
      have hsn := take_vl (L := L) (k := i) (by omega)
      obtain ⟨v, hv⟩ : ∃ v, L.getD i v0 = v := ⟨_, rfl⟩
      rw [hv] at h1 h2 h3 hsn
      have hst : Hid ((L.take (i + 1)).filter p = (L.take i).filter p ++ if p v then [v] else []) := by show _ = _; rw [hsn, List.filter_append]; by_cases h : p v <;> simp [h]
      have hpv := HPE.out v
      clear hc hsn hv
      cases hk : v.k == 1
      · have HU : Hid (p v = false) := by show _ = _; rw [hpv, hk]
        clear hpv
        go_wp2_with fail
        go_roundw
        case rel => exact ⟨i + 1, by omega, by go_num, by rw [hst.out, HU.out]; simpa using hown.alloc _, hbW2.al _⟩
        case measure => simp [intOf]; omega
      · have HU : Hid (p v = true) := by show _ = _; rw [hpv, hk]
        clear hpv
        go_wp2_with (at_builtin; refine app_val rfl (.tmp 20) (.tmp 22) rfl _ ((L.take i).filter p) rfl (hown.alloc _) (hbW2.al _) v rfl (by simp) (by omega) ?_; intro v' w3 hown' hb')
        go_roundw
        case rel => exact ⟨i + 1, by omega, by go_num, by rw [hst.out, HU.out]; exact hown', hb'⟩
        case measure => simp [intOf]; omega
    · have hall : L.take i = L := List.take_of_length_le (by omega)
      obtain rfl : i = len := by omega
      rw [hall] at hown hcl
      have hno : nums (L.filter p) = nums L := by rw [← HP.out]; exact nums_own L
      have hmf : Mants (nums (L.filter p)) := by rw [hno]; exact HML.out
      have hml := HML.out
      obtain ⟨a', cap', rfl, hin', -⟩ := own_vals hown
      have hbw := hb2.th hbW2
      have hvr := hv2.below hbW2
      have e1 := CallB.of fun w h => sum_any a i cap L w (hvr.below h) (by omega) hml
      have e2 := CallB.of fun w h => sum_any a' _ cap' (L.filter p) w (hin'.below h) (by omega) hmf
      have e3 := CallB.of fun w h => product_any a i cap L w (hvr.below h) (by omega) hml
      have e4 := CallB.of fun w h => product_any a' _ cap' (L.filter p) w (hin'.below h) (by omega) hmf
      have e5 := CallB.of fun w h => average_any a i cap L w (hvr.below h) (by omega) hml
      have e6 := CallB.of fun w h => average_any a' _ cap' (L.filter p) w (hin'.below h) (by omega) hmf
      have e7 := CallB.of fun w h => extreme_any true a i cap L w (hvr.below h) (by omega)
      have e8 := CallB.of fun w h => extreme_any true a' _ cap' (L.filter p) w (hin'.below h) (by omega)
      have e9 := CallB.of fun (w : World) (h : Below wr.heap.size wr w) => sum_any none 0 0 [] w (VIn.nil _ _) (by omega) (fun z hz => by cases hz)
      have e10 := CallB.of fun (w : World) (h : Below wr.heap.size wr w) => product_any none 0 0 [] w (VIn.nil _ _) (by omega) (fun z hz => by cases hz)
      have e11 := CallB.of fun (w : World) (h : Below wr.heap.size wr w) => vnum_any 0 w
      have hbR : Below wr.heap.size wr wr := Below.refl _ _
      rw [hno] at e2 e4 e6 e8
      generalize hc : (L.filter p).length = c at *
      generalize oK (sumO (nums L)) = k1 at *
      generalize oN (sumO (nums L)) = n1 at *
      generalize oK (prodO (nums L)) = k2 at *
      generalize oN (prodO (nums L)) = n2 at *
      generalize avgK (nums L) = k3 at *
      generalize avgN (nums L) = n3 at *
      generalize extV true (nums L) = n4 at *
      clear hall hno hmf hml hcl hc hown hlen
      go_wp2_with (first
        | ((with_reducible refine (e1.at_ (by assumption)).mono ?_); rintro e w' ⟨rfl, hb'⟩)
        | ((with_reducible refine (e2.at_ (by assumption)).mono ?_); rintro e w' ⟨rfl, hb'⟩)
        | ((with_reducible refine (e3.at_ (by assumption)).mono ?_); rintro e w' ⟨rfl, hb'⟩)
        | ((with_reducible refine (e4.at_ (by assumption)).mono ?_); rintro e w' ⟨rfl, hb'⟩)
        | ((with_reducible refine (e5.at_ (by assumption)).mono ?_); rintro e w' ⟨rfl, hb'⟩)
        | ((with_reducible refine (e6.at_ (by assumption)).mono ?_); rintro e w' ⟨rfl, hb'⟩)
        | ((with_reducible refine (e7.at_ (by assumption)).mono ?_); rintro e w' ⟨rfl, hb'⟩)
        | ((with_reducible refine (e8.at_ (by assumption)).mono ?_); rintro e w' ⟨rfl, hb'⟩)
        | ((with_reducible refine (e9.at_ (by assumption)).mono ?_); rintro e w' ⟨rfl, hb'⟩)
        | ((with_reducible refine (e10.at_ (by assumption)).mono ?_); rintro e w' ⟨rfl, hb'⟩)
        | ((with_reducible refine (e11.at_ (by assumption)).mono ?_); rintro e w' ⟨rfl, hb'⟩))
      go_ret
      exact ⟨rfl, hbw.th (by assumption)⟩
end Go.Proofs.Ytpnnjmckjipacaa.listsSkips
