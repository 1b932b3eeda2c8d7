/-
  A slice of bytes that came in. Conditions: each theorem's own.
-/
import Derived.Test.YtcalgokkibhpeaaBytes
import Derived.Laws.BytesArg
import Derived.OpenShut
namespace Go.Proofs.Ytcalgokkibhpeaa
open Go.RowKit Num
set_option linter.unusedVariables false

/-- The slice a, of so many bytes, holds l. -/
def BytesIn (w : World) (a : Option Addr) (len : Nat) (l : List UInt8) : Prop :=
  l.length = len ∧ (0 < len → ∃ b off, a = some ⟨b, off, none⟩ ∧ b < w.heap.size ∧ ∀ j, j < len → w.cell? ⟨b, off + j, none⟩ = some (.int .u8 ((l.getD j 0).toNat : Int)))

theorem cell_block {w : World} {b o : Nat} {v : Value} (h : w.cell? ⟨b, o, none⟩ = some v) : b < w.heap.size := by
  rcases Nat.lt_or_ge b w.heap.size with h' | h'
  · exact h'
  · simp [World.cell?, Array.getElem?_eq_none h'] at h

theorem bytesIn_nil (w : World) : BytesIn w none 0 [] := ⟨rfl, fun h => by omega⟩
theorem bytesIn_of {w : World} {x : Addr} {len cap : Nat} {zs : List Int} (hl : len ≤ cap) (hz : zs.length = cap) (hc : ∀ i, i < zs.length → w.cell? (x.add i) = some (.int .u8 (zs.getD i 0))) (hw : ∀ n ∈ zs, (Lit.int .u8 n).wf = true) :
    ∃ l, BytesIn w (some x) len l := by
  refine ⟨(zs.take len).map fun n => UInt8.ofNat n.toNat, by simp; omega, fun h0 => ?_⟩
  obtain ⟨b, off, rfl, hcell⟩ := ints_at hc (by omega)
  refine ⟨b, off, rfl, cell_block (hcell 0 (by omega)), fun j hj => ?_⟩
  rw [hcell j (by omega)]
  have hj' : j < zs.length := by omega
  have hb := bounds_u8 (hw zs[j] (List.getElem_mem hj'))
  have e : ((zs.take len).map fun n => UInt8.ofNat n.toNat).getD j 0 = UInt8.ofNat zs[j].toNat := by
    rw [List.getD_eq_getElem?_getD, List.getElem?_map, List.getElem?_take, if_pos hj, List.getElem?_eq_getElem hj']; rfl
  rw [e, List.getD_eq_getElem?_getD, List.getElem?_eq_getElem hj']
  simp [UInt8.toNat_ofNat']
  omega
theorem BytesIn.below {w w' : World} {a : Option Addr} {len : Nat} {l : List UInt8} (h : BytesIn w a len l) (hb : Below w.heap.size w w') : BytesIn w' a len l := by
  refine ⟨h.1, fun h0 => ?_⟩
  obtain ⟨b, off, rfl, hB, hc⟩ := h.2 h0
  exact ⟨b, off, rfl, Nat.lt_of_lt_of_le hB hb.size, fun j hj => by rw [hb.cell (p := ⟨b, off + j, none⟩) hB]; exact hc j hj⟩
/-- string(b). -/
theorem BytesIn.text {w : World} {a : Option Addr} {len cap : Nat} {l : List UInt8} (h : BytesIn w a len l) :
    (convert 29 9 (.slice a len cap)).run Try.prog w = .ok (.string ⟨l.toArray⟩) w := by
  by_cases h0 : 0 < len
  · obtain ⟨b, off, rfl, hB, hc⟩ := h.2 h0
    obtain rfl := h.1
    refine run_convert_bytes_back w 29 9 5 ⟨b, off, none⟩ cap l Try.underlying29 Try.underlying5 Try.underlying9 fun j hj => ?_
    have := hc j hj
    rw [List.getD_eq_getElem?_getD, List.getElem?_eq_getElem hj] at this
    rw [Go.WideShapes.add_plain]
    exact this
  · obtain rfl : len = 0 := by omega
    obtain rfl := List.length_eq_zero_iff.1 h.1
    rcases a with _ | a
    · exact run_convert_bytes_nil w 29 5 Try.underlying29 Try.underlying5 0 cap 9 Try.underlying9
    · exact run_convert_bytes_back w 29 9 5 a cap [] Try.underlying29 Try.underlying5 Try.underlying9 fun j hj => by simp at hj
end Go.Proofs.Ytcalgokkibhpeaa
