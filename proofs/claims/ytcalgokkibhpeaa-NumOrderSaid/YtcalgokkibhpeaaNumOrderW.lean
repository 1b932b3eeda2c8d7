/-
  The law NumOrder: its walk. Conditions: the arguments are of their kind.
-/
import Derived.Test.YtcalgokkibhpeaaNumFit
import Derived.Lib.Strings
namespace Go.Proofs.Ytcalgokkibhpeaa
open Go.RowKit Num
set_option linter.unusedVariables false
namespace numOrder

/-- Two texts are the same just if the numbers are. -/
theorem txt_beq {A B : Int} (ha : -9223372036854775807 ≤ A ∧ A ≤ 9223372036854775807) (hb : -9223372036854775807 ≤ B ∧ B ≤ 9223372036854775807) {s u : ByteArray} (hs : s.data.toList = txt A) (hu : u.data.toList = txt B) :
    (s.toList == u.toList) = (A == B) := by
  rw [Lib.toList_data, Lib.toList_data, hs, hu, Bool.eq_iff_iff]
  simp only [beq_iff_eq]
  exact ⟨txt_inj ha hb, fun h => by rw [h]⟩
theorem last_txt {A : Int} (h : A % 1000000 ≠ 0) : ∀ e, (txt A).getLast e ≠ 48 := by
  have hz : A.natAbs % 1000000 ≠ 0 := by omega
  obtain ⟨c, l, e2, _⟩ := txtAbs_head A.natAbs
  have := last_txtAbs A.natAbs hz
  intro e
  unfold txt at e ⊢
  by_cases hA : A < 0
  · simp only [if_pos hA]
    rw [List.getLast_cons (by rw [e2]; simp)]
    exact this _
  · simp only [if_neg hA]
    exact this _
theorem point_txt (A : Int) : (46 : UInt8) ∈ txt A ↔ A % 1000000 ≠ 0 := by
  have := point_txtAbs A.natAbs
  unfold txt
  split
  · rw [List.mem_cons]
    constructor
    · intro h
      rcases h with h | h
      · exact absurd h (by decide)
      · have := this.1 h; omega
    · intro h; exact Or.inr (this.2 (by omega))
  · rw [this]; omega
theorem last_byte {s : ByteArray} {A : Int} (hs : s.data.toList = txt A) (h : A % 1000000 ≠ 0) (h0 : s.size - 1 < s.size) : ((s[s.size - 1].toNat : Int) != 48) = true := by
  have hne : txt A ≠ [] := by rw [← hs]; intro e; have : s.size = 0 := by have := congrArg List.length e; simpa using this
                              omega
  have h1 := last_txt h hne
  have h2 : s[s.size - 1] = (txt A).getLast hne := by
    rw [List.getLast_eq_getElem]
    simp only [← hs]
    rfl
  rw [h2]
  rw [bne_iff_ne]
  intro h3
  apply h1
  apply UInt8.toNat_inj.1
  simp; omega

theorem len_txt (A : Int) (ha : -9223372036854775807 ≤ A ∧ A ≤ 9223372036854775807) : 1 ≤ (txt A).length ∧ (txt A).length ≤ 21 := by
  have := len_txtAbs A.natAbs (by omega)
  unfold txt
  split
  · rw [List.length_cons]; omega
  · omega
/-- Is there a point among the first i bytes? -/
def pt (s : ByteArray) (i : Nat) : Bool := (s.data.toList.take i).contains 46
theorem pt_step (s : ByteArray) (i : Nat) (h : i < s.size) : (pt s i = true → pt s (i + 1) = true) ∧ (pt s i = false → pt s (i + 1) = ((s[i].toNat : Int) == 46)) := by
  have e : s.data.toList.take (i + 1) = s.data.toList.take i ++ [s[i]] := by
    rw [List.take_succ_eq_append_getElem (by simpa using h)]; rfl
  unfold pt
  rw [e]
  constructor
  · intro h1; rw [List.contains_eq_mem] at h1 ⊢; simp at h1 ⊢; exact Or.inl h1
  · intro h1
    rw [List.contains_eq_mem] at h1 ⊢
    rw [Bool.eq_iff_iff]
    simp at h1 ⊢
    constructor
    · intro h2
      rcases h2 with h2 | h2
      · exact absurd h2 h1
      · rw [← h2]; rfl
    · intro h2
      refine Or.inr ?_
      apply UInt8.toNat_inj.1
      simp; omega

theorem walk (a b : Int) (w : World) (wa : (Lit.int .i64 a).wf = true) (wb : (Lit.int .i64 b).wf = true) :
    Calls Try.prog 3 #[.int .i64 a, .int .i64 b] w fun e w' => e = .returned (.bool true) ∧ Below w.heap.size w w' := by
  have ha := rt_bd a (bounds_i64 wa)
  have hb := rt_bd b (bounds_i64 wb)
  obtain ⟨A, hA⟩ : ∃ A, rt a = A := ⟨_, rfl⟩
  obtain ⟨B, hB⟩ : ∃ B, rt b = B := ⟨_, rfl⟩
  rw [hA] at ha
  rw [hB] at hb
  have HA := Lib.hid hA
  have HB := Lib.hid hB
  clear hA hB wa wb
  go_enter Try.func3, Try.ntmps3
  go_wp2_with fail
  refine (fit_any _).mono ?_
  rintro e w1 ⟨rfl, hb1⟩
  go_wp2_with fail
  refine (right_any a _).mono ?_
  rintro e w' ⟨rfl, rfl⟩
  rw [HA.out]
  go_wp2_with fail
  refine (right_any b _).mono ?_
  rintro e w' ⟨rfl, rfl⟩
  rw [HB.out]
  go_wp2_with fail
  refine (print_any A _ ha).mono ?_
  rintro e w2 ⟨rfl, hb2⟩
  go_wp2_with fail
  refine (print_any B _ hb).mono ?_
  rintro e w3 ⟨rfl, hb3⟩
  obtain ⟨s, hs⟩ : ∃ s : ByteArray, (⟨(txt A).toArray⟩ : ByteArray) = s := ⟨_, rfl⟩
  obtain ⟨u, hu⟩ : ∃ u : ByteArray, (⟨(txt B).toArray⟩ : ByteArray) = u := ⟨_, rfl⟩
  rw [hs, hu]
  have hls : s.data.toList = txt A := by rw [← hs]
  have hlu : u.data.toList = txt B := by rw [← hu]
  have hsz : 1 ≤ s.size ∧ s.size ≤ 21 := by
    have e : s.size = (txt A).length := by rw [← hls]; rfl
    rw [e]; exact len_txt A ha
  have HS := Lib.hid hls
  have HU := Lib.hid hlu
  clear hs hu hls hlu
  obtain ⟨hs1, hs21⟩ := hsz
  go_wp2_with fail
  go_loop [7, 21] (fun sp si => ∃ i : Nat, i ≤ s.size ∧ si = .int .i64 i ∧ sp = .bool (pt s i)) (fun _ si => s.size - (intOf si).toNat)
  case atStart => exact ⟨0, by omega, rfl, rfl⟩
  case round =>
    obtain ⟨i, hi, rfl, rfl⟩ := hrel
    by_cases hlt : i < s.size
    · have hp := pt_step s i hlt
      by_cases h1 : pt s i = true
      · have hp' := Lib.hid (hp.1 h1)
        clear hp
        go_wp2
        go_round
        case rel => exact ⟨i + 1, by omega, by go_num, by rw [hp'.out]⟩
        case measure => simp [intOf]; omega
      · have h1' : pt s i = false := by simpa using h1
        clear h1
        have hp' := Lib.hid (hp.2 h1')
        clear hp
        go_wp2
        go_round
        case rel => exact ⟨i + 1, by omega, by go_num, by rw [hp'.out]⟩
        case measure => simp [intOf]; omega
    · have he := txt_beq ha hb HS.out HU.out
      have hi' : i = s.size := by omega
      have hsa : s.data.toList.take i = txt A := by rw [hi']; exact (List.take_of_length_le (Nat.le_refl s.data.toList.length)).trans HS.out
      have hBel : Below w.heap.size w w3 := (hb1.trans (hb2.mono (by have := hb1.size; omega))).trans (hb3.mono (by have := hb1.size; have := hb2.size; omega))
      by_cases hz : A % 1000000 = 0
      · have hm : (A.tmod 1000000 != 0) = false := by rw [tmod_eq_if]; split <;> simp <;> omega
        have hp : pt s i = false := by
          unfold pt; rw [hsa]; have := point_txt A
          rw [List.contains_eq_mem]; simp; intro h; exact this.1 h hz
        clear hsa hi' hz
        go_wp2
        go_ret
        exact ⟨rfl, hBel⟩
      · have hm : (A.tmod 1000000 != 0) = true := by rw [tmod_eq_if]; split <;> simp <;> omega
        have hp : pt s i = true := by
          unfold pt; rw [hsa]; have := point_txt A
          rw [List.contains_eq_mem]; simp; exact this.2 hz
        have hlb := last_byte HS.out hz (by omega)
        clear hsa hi' hz
        go_wp2
        go_ret
        exact ⟨rfl, hBel⟩
end numOrder
end Go.Proofs.Ytcalgokkibhpeaa
