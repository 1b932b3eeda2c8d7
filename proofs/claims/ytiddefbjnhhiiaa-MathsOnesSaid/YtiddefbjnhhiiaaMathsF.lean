/-
  maths: One and Two yield what may be a value, whatever their names: out of their contracts. Conditions: each theorem's own.
-/
import Derived.Test.YtiddefbjnhhiiaaMathsE
namespace Go.Proofs.Ytiddefbjnhhiiaa
open Go.RowKit Num
set_option linter.unusedVariables false
set_option linter.unusedSimpArgs false

theorem vr_n {n : Int} (h : Mant n) : vr 1 n { data := #[] } = true ∧ Mant n := pr_o (o := some n) (fun s hs => by cases hs; exact h)
theorem vr_4 {n : Int} (h : 1 ≤ n ∧ n ≤ 7) : vr 4 n { data := #[] } = true ∧ Mant n := ⟨by unfold vr; simp; exact ⟨h.1, h.2, rfl⟩, by unfold Mant; omega⟩
theorem abs_mant {a : Int} (h : Mant a) : Mant (absV a) := by unfold absV Mant at *; split <;> omega
theorem flo_bd {a : Int} (h : Mant a) : ∀ s, floO a = some s → Mant s := by
  intro s hs
  unfold floO at hs
  unfold Mant at *
  split at hs
  · cases hs; omega
  · cases hs
theorem trunc_mant {a : Int} (h : Mant a) : Mant (a - a.tmod 1000000) := by
  unfold Mant at *
  rw [tmod_if a _]
  split <;> omega
theorem mod_mant {a b : Int} (hb : Mant b) (h0 : ¬ b = 0) : Mant (modV a b) := by
  unfold modV
  obtain ⟨r, hr⟩ : ∃ r, a.tmod b = r := ⟨_, rfl⟩
  have hrb : (b < 0 → b < r ∧ r < -b) ∧ (0 < b → -b < r ∧ r < b) := by
    rw [← hr, tmod_if a b]
    unfold Mant at hb
    have g1 := Int.emod_nonneg a h0
    have g2 := Int.emod_lt a h0
    have g3 := Int.emod_nonneg (-a) h0
    have g4 := Int.emod_lt (-a) h0
    split <;> omega
  rw [hr]
  unfold Mant at *
  split
  · rename_i hc
    have hx := hc.2
    by_cases h1 : r < 0 <;> by_cases h2 : b < 0 <;> simp [h1, h2] at hx <;> omega
  · omega
theorem rndO_bd {a u : Int} (hu : 1 ≤ u) : ∀ s, rndO a u = some s → Mant s := by
  intro s h
  unfold rndO at h
  split at h
  · cases h
  · rename_i hc
    cases h
    obtain ⟨Q, hQ⟩ : ∃ Q, rndQ a u = Q := ⟨_, rfl⟩
    rw [hQ] at hc ⊢
    have h1 := Int.ediv_mul_le 9223372036854775807 (b := u) (by omega)
    obtain ⟨m, hm⟩ : ∃ m, (9223372036854775807 : Int) / u = m := ⟨_, rfl⟩
    rw [hm] at h1 hc
    have h5 : Q * u ≤ m * u := Int.mul_le_mul_of_nonneg_right (by omega) (by omega)
    have h6 : -m * u ≤ Q * u := Int.mul_le_mul_of_nonneg_right (by omega) (by omega)
    rw [Int.neg_mul] at h6
    unfold Mant
    omega
theorem round_bd (a b : Int) : ∀ s, roundO a b = some s → Mant s := by
  intro s h
  unfold roundO at h
  split at h
  · cases h
  · refine rndO_bd ?_ s h
    have := Nat.one_le_pow (6 - b.tdiv 1000000).toNat 10 (by omega)
    have e : ((10 ^ (6 - b.tdiv 1000000).toNat : Nat) : Int) = (10 : Int) ^ (6 - b.tdiv 1000000).toNat := by push_cast; rfl
    omega
theorem powO_bd (a : Int) : ∀ k s, powO a k = some s → Mant s := by
  intro k
  cases k with
  | zero => intro s h; cases h; unfold Mant; omega
  | succ k =>
    intro s h
    rw [powO] at h
    cases hp : powO a k with
    | none => rw [hp] at h; cases h
    | some t =>
      rw [hp] at h
      unfold mulO at h
      simp only [Option.bind_some] at h
      split at h
      · cases h; exact mulV_bd _ _ _
      · cases h
theorem powB_bd (a b : Int) : ∀ s, powB a b = some s → Mant s := by
  intro s h
  unfold powB at h
  split at h
  · cases h
  · exact powO_bd a _ s h
theorem toR {f : FuncId} {args : Array Value} {w : World} {k n : Int} (h : Calls Try.prog f args w (RetV k n { data := #[] } w)) (hv : vr k n { data := #[] } = true ∧ Mant n) : Calls Try.prog f args w (RetR w) := h.mono fun e w' hh => ⟨_, _, hv, hh⟩

theorem one_right (s : ByteArray) (a : Int) (w : World) (ha : Mant a) : Calls Try.prog 14 #[.string s, .int .i64 a] w (RetR w) := by
  by_cases h1 : s = ⟨#[65, 66, 83]⟩
  · subst h1; exact toR (one_abs a w ha) (vr_n (abs_mant ha))
  by_cases h2 : s = ⟨#[83, 73, 71, 78]⟩
  · subst h2; exact toR (one_sign a w ha) (pr_o (ofO_bd _))
  by_cases h3 : s = ⟨#[73, 78, 84]⟩
  · subst h3; exact toR (one_int a w ha) (pr_o (flo_bd ha))
  by_cases h4 : s = ⟨#[84, 82, 85, 78, 67]⟩
  · subst h4; exact toR (one_trunc a w ha) (vr_n (trunc_mant ha))
  by_cases h5 : s = ⟨#[69, 86, 69, 78]⟩
  · subst h5; exact toR (one_even a w ha) (pr_o (ofO_bd _))
  by_cases h6 : s = ⟨#[79, 68, 68]⟩
  · subst h6; exact toR (one_odd a w ha) (pr_o (ofO_bd _))
  by_cases h7 : s = ⟨#[70, 65, 67, 84]⟩
  · subst h7; exact toR (one_fact a w ha) (pr_o (factO_bd a))
  exact toR (one_other s a w ha (str_ne h1) (str_ne h2) (str_ne h3) (str_ne h4) (str_ne h5) (str_ne h6) (str_ne h7)) (vr_4 (by omega))
theorem two_right (s : ByteArray) (a b : Int) (w : World) (ha : Mant a) (hb : Mant b) : Calls Try.prog 11 #[.string s, .int .i64 a, .int .i64 b] w (RetR w) := by
  by_cases h1 : s = ⟨#[82, 79, 85, 78, 68]⟩
  · subst h1; exact toR (two_round a b w ha hb) (pr_o (round_bd a b))
  by_cases h2 : s = ⟨#[77, 79, 68]⟩
  · subst h2
    by_cases h0 : b = 0
    · exact toR (two_mod0 a b w ha hb h0) (vr_4 (by omega))
    · exact toR (two_mod a b w ha hb h0) (vr_n (mod_mant hb h0))
  by_cases h3 : s = ⟨#[80, 79, 87, 69, 82]⟩
  · subst h3; exact toR (two_power a b w ha hb) (pr_o (powB_bd a b))
  by_cases h4 : s = ⟨#[81, 85, 79, 84, 73, 69, 78, 84]⟩
  · subst h4
    by_cases h0 : b = 0
    · exact toR (two_quot0 a b w ha hb h0) (vr_4 (by omega))
    · exact toR (two_quot a b w ha hb h0) (pr_o (ofO_bd _))
  by_cases h5 : s = ⟨#[71, 67, 68]⟩
  · subst h5; exact two_gcd a b w ha hb
  by_cases h6 : s = ⟨#[76, 67, 77]⟩
  · subst h6; exact two_lcm a b w ha hb
  exact toR (two_other s a b w ha hb (str_ne h1) (str_ne h2) (str_ne h3) (str_ne h4) (str_ne h5) (str_ne h6)) (vr_4 (by omega))
end Go.Proofs.Ytiddefbjnhhiiaa
