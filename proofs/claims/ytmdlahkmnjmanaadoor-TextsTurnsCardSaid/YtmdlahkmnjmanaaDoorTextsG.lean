/-
  texts: turned, trimmed, runes: walks. Conditions: each theorem's own.
-/
import Derived.Test.YtmdlahkmnjmanaaDoorTextsF
import Derived.Lib.ConvBytes
import Derived.Lib.AtoiErrMem
import Derived.Deep.DeepCutAuto
namespace Go.Proofs.YtmdlahkmnjmanaaDoor
open Go.RowKit Num
set_option linter.unusedVariables false
set_option linter.unusedSimpArgs false

theorem frozen_set (w : World) (a b : Addr) (v : Value) : (w.setCell a v).frozen? b = w.frozen? b := by
  first | exact World.frozen?_setCell w a v b | simp
set_option maxRecDepth 100000 in
set_option maxHeartbeats 4000000 in
theorem turned_up (s : ByteArray) (w : World) (hs : s.size ≤ 64) :
    Calls Tryd.prog 23 #[.string s, .int .u8 97, .int .u8 65] w fun e w' => e = .returned (.string (mapB upc s)) ∧ Ext w w' := by
  obtain ⟨L, hL⟩ : ∃ L, s.data.toList = L := ⟨_, rfl⟩
  have hLl : L.length = s.size := by rw [← hL]; simp
  have HL := Lib.hid hL
  have hE := Ext.refl w
  clear hL
  have hcv := fun w => Lib.run_convert_string_bytes (P := Tryd.prog) w 9 62 5 s Tryd.underlying9 Tryd.underlying62 Tryd.underlying5
  have hb := Lib.bytesWorld_cell w 5 s
  have hfr : ∀ j, j < s.size → (Lib.bytesWorld w 5 s).frozen? ⟨w.heap.size, j, none⟩ = false := fun j hj => by
    simp only [World.frozen?, Lib.bytesWorld_at_new]
    have : s.size ≤ (Lib.bytesCells w 5 s).size := by unfold Lib.bytesCells; simp <;> omega
    simp <;> omega
  have hbe : Ext w (Lib.bytesWorld w 5 s) := Lib.bytesWorld_below w 5 s
  have hgl : w.heap.size < (Lib.bytesWorld w 5 s).heap.size := by rw [Lib.bytesWorld_size]; omega
  obtain ⟨W1, hW1⟩ : ∃ W1, Lib.bytesWorld w 5 s = W1 := ⟨_, rfl⟩
  rw [hW1] at hb hfr hbe hgl
  have HW1 := Lib.hid hW1
  obtain ⟨cp, hcp⟩ : ∃ cp, grownCap w s.size 0 5 = cp := ⟨_, rfl⟩
  have HCP := Lib.hid hcp
  have HB : Hid (∀ j, j < s.size → W1.cell? ⟨w.heap.size, j, none⟩ = some (.int .u8 (L.getD j 0).toNat)) := Lib.hid (by rw [← HL.out]; exact hb)
  have HFR := Lib.hid hfr
  have HBE := Lib.hid hbe
  have HCV := Lib.hid hcv
  clear hb hfr hbe hW1 hcp hcv
  go_enter Tryd.func23, Tryd.ntmps23
  have hcv := HCV.out w
  rw [HW1.out, HCP.out] at hcv
  go_wp2_with fail
  clear hcv
  generalize hg : w.heap.size = g at *
  go_loopw [8, 9, 14] (fun _ _ si wr => ∃ i : Nat, i ≤ s.size ∧ si = .int .i64 (i : Int) ∧ Hid (∀ j, j < s.size → wr.cell? ⟨g, j, none⟩ = some (.int .u8 ((if j < i then upc (L.getD j 0) else L.getD j 0).toNat : Nat)) ∧ wr.frozen? ⟨g, j, none⟩ = false) ∧ Ext w wr ∧ g < wr.heap.size) (fun _ _ si _ => s.size - (intOf si).toNat)
  case atStart => exact ⟨0, by omega, rfl, Lib.hid fun j hj => ⟨by rw [if_neg (by omega)]; exact HB.out j hj, HFR.out j hj⟩, HBE.out, hgl⟩
  case round =>
    obtain ⟨i, hi, rfl, HR, hbw, hgw⟩ := hrel
    by_cases hlt : i < s.size
    · obtain ⟨hci, hfi⟩ := HR.out i hlt
      rw [if_neg (by omega)] at hci
      obtain ⟨c, hc⟩ : ∃ c, L.getD i 0 = c := ⟨_, rfl⟩
      rw [hc] at hci
      have HC := Lib.hid hc
      have hc256 := c.toNat_lt
      clear hc
      by_cases hs1 : 97 ≤ c.toNat ∧ c.toNat ≤ 122
      · have hs2 : (97 : Int) ≤ (c.toNat : Int) := by omega
        have hs3 : (c.toNat : Int) ≤ 122 := by omega
        go_wp2_with fail
        go_roundw
        case rel =>
          have hu : (upc c).toNat = c.toNat - 32 := by rw [upc_nat, if_pos hs1]
          refine ⟨i + 1, by omega, by go_num, Lib.hid fun j hj => ?_, ext_set hbw (show w.heap.size ≤ g by omega), by rw [World.size_setCell]; exact hgw⟩
          obtain ⟨r1, r2⟩ := HR.out j hj
          by_cases hji : j = i
          · subst hji
            refine ⟨?_, by rw [frozen_set]; exact r2⟩
            rw [World.cell?_setCell_same _ _ _ hci, if_pos (by omega), HC.out, hu]
            congr 2
            omega
          · refine ⟨?_, by rw [frozen_set]; exact r2⟩
            rw [World.cell?_setCell_other _ _ _ _ (by intro h; simp only [Addr.mk.injEq] at h; omega), r1]
            by_cases hj2 : j < i
            · rw [if_pos hj2, if_pos (by omega)]
            · rw [if_neg hj2, if_neg (by omega)]
        case measure => simp [intOf]; omega
      · have hs2 : (c.toNat : Int) < 97 ∨ (122 : Int) < (c.toNat : Int) := by omega
        rcases hs2 with hs2 | hs2
        all_goals
          go_wp2_with fail
          go_roundw
          case rel =>
            have hu : upc c = c := if_neg hs1
            refine ⟨i + 1, by omega, by go_num, Lib.hid fun j hj => ?_, hbw, hgw⟩
            obtain ⟨r1, r2⟩ := HR.out j hj
            refine ⟨?_, r2⟩
            rw [r1]
            by_cases hj2 : j < i
            · rw [if_pos hj2, if_pos (by omega)]
            · by_cases hji : j = i
              · subst hji
                rw [if_neg (by omega), if_pos (by omega), HC.out, hu]
              · rw [if_neg hj2, if_neg (by omega)]
          case measure => simp [intOf]; omega
    · have hin : i = s.size := by omega
      have hback : Sem.run Tryd.prog (convert 62 9 (.slice (some ⟨g, 0, none⟩) s.size cp)) wr = .ok (.string (mapB upc s)) wr := by
        have hl : (s.data.toList.map upc).length = s.size := by simp
        have := run_convert_bytes_back (P := Tryd.prog) wr 62 9 5 ⟨g, 0, none⟩ cp (s.data.toList.map upc) Tryd.underlying62 Tryd.underlying5 Tryd.underlying9 (fun j hj => by
          rw [hl] at hj
          have h1 := (HR.out j hj).1
          rw [if_pos (by omega)] at h1
          have h2 : L.getD j 0 = s.data.toList[j]'(by simpa using hj) := by rw [← HL.out]; simp [List.getD, hj]
          rw [h2] at h1
          rw [show (⟨g, 0, none⟩ : Addr).add j = ⟨g, j, none⟩ by simp [Addr.add] <;> omega, h1]
          simp)
        rw [hl] at this
        exact this
      go_wp2_with fail
      go_ret
      exact ⟨rfl, hbw⟩
set_option maxRecDepth 100000 in
set_option maxHeartbeats 4000000 in
theorem turned_low (s : ByteArray) (w : World) (hs : s.size ≤ 64) :
    Calls Tryd.prog 23 #[.string s, .int .u8 65, .int .u8 97] w fun e w' => e = .returned (.string (mapB loc s)) ∧ Ext w w' := by
  obtain ⟨L, hL⟩ : ∃ L, s.data.toList = L := ⟨_, rfl⟩
  have hLl : L.length = s.size := by rw [← hL]; simp
  have HL := Lib.hid hL
  have hE := Ext.refl w
  clear hL
  have hcv := fun w => Lib.run_convert_string_bytes (P := Tryd.prog) w 9 62 5 s Tryd.underlying9 Tryd.underlying62 Tryd.underlying5
  have hb := Lib.bytesWorld_cell w 5 s
  have hfr : ∀ j, j < s.size → (Lib.bytesWorld w 5 s).frozen? ⟨w.heap.size, j, none⟩ = false := fun j hj => by
    simp only [World.frozen?, Lib.bytesWorld_at_new]
    have : s.size ≤ (Lib.bytesCells w 5 s).size := by unfold Lib.bytesCells; simp <;> omega
    simp <;> omega
  have hbe : Ext w (Lib.bytesWorld w 5 s) := Lib.bytesWorld_below w 5 s
  have hgl : w.heap.size < (Lib.bytesWorld w 5 s).heap.size := by rw [Lib.bytesWorld_size]; omega
  obtain ⟨W1, hW1⟩ : ∃ W1, Lib.bytesWorld w 5 s = W1 := ⟨_, rfl⟩
  rw [hW1] at hb hfr hbe hgl
  have HW1 := Lib.hid hW1
  obtain ⟨cp, hcp⟩ : ∃ cp, grownCap w s.size 0 5 = cp := ⟨_, rfl⟩
  have HCP := Lib.hid hcp
  have HB : Hid (∀ j, j < s.size → W1.cell? ⟨w.heap.size, j, none⟩ = some (.int .u8 (L.getD j 0).toNat)) := Lib.hid (by rw [← HL.out]; exact hb)
  have HFR := Lib.hid hfr
  have HBE := Lib.hid hbe
  have HCV := Lib.hid hcv
  clear hb hfr hbe hW1 hcp hcv
  go_enter Tryd.func23, Tryd.ntmps23
  have hcv := HCV.out w
  rw [HW1.out, HCP.out] at hcv
  go_wp2_with fail
  clear hcv
  generalize hg : w.heap.size = g at *
  go_loopw [8, 9, 14] (fun _ _ si wr => ∃ i : Nat, i ≤ s.size ∧ si = .int .i64 (i : Int) ∧ Hid (∀ j, j < s.size → wr.cell? ⟨g, j, none⟩ = some (.int .u8 ((if j < i then loc (L.getD j 0) else L.getD j 0).toNat : Nat)) ∧ wr.frozen? ⟨g, j, none⟩ = false) ∧ Ext w wr ∧ g < wr.heap.size) (fun _ _ si _ => s.size - (intOf si).toNat)
  case atStart => exact ⟨0, by omega, rfl, Lib.hid fun j hj => ⟨by rw [if_neg (by omega)]; exact HB.out j hj, HFR.out j hj⟩, HBE.out, hgl⟩
  case round =>
    obtain ⟨i, hi, rfl, HR, hbw, hgw⟩ := hrel
    by_cases hlt : i < s.size
    · obtain ⟨hci, hfi⟩ := HR.out i hlt
      rw [if_neg (by omega)] at hci
      obtain ⟨c, hc⟩ : ∃ c, L.getD i 0 = c := ⟨_, rfl⟩
      rw [hc] at hci
      have HC := Lib.hid hc
      have hc256 := c.toNat_lt
      clear hc
      by_cases hs1 : 65 ≤ c.toNat ∧ c.toNat ≤ 90
      · have hs2 : (65 : Int) ≤ (c.toNat : Int) := by omega
        have hs3 : (c.toNat : Int) ≤ 90 := by omega
        go_wp2_with fail
        go_roundw
        case rel =>
          have hu : (loc c).toNat = c.toNat + 32 := by rw [loc_nat, if_pos hs1]
          refine ⟨i + 1, by omega, by go_num, Lib.hid fun j hj => ?_, ext_set hbw (show w.heap.size ≤ g by omega), by rw [World.size_setCell]; exact hgw⟩
          obtain ⟨r1, r2⟩ := HR.out j hj
          by_cases hji : j = i
          · subst hji
            refine ⟨?_, by rw [frozen_set]; exact r2⟩
            rw [World.cell?_setCell_same _ _ _ hci, if_pos (by omega), HC.out, hu]
            congr 2
            omega
          · refine ⟨?_, by rw [frozen_set]; exact r2⟩
            rw [World.cell?_setCell_other _ _ _ _ (by intro h; simp only [Addr.mk.injEq] at h; omega), r1]
            by_cases hj2 : j < i
            · rw [if_pos hj2, if_pos (by omega)]
            · rw [if_neg hj2, if_neg (by omega)]
        case measure => simp [intOf]; omega
      · have hs2 : (c.toNat : Int) < 65 ∨ (90 : Int) < (c.toNat : Int) := by omega
        rcases hs2 with hs2 | hs2
        all_goals
          go_wp2_with fail
          go_roundw
          case rel =>
            have hu : loc c = c := if_neg hs1
            refine ⟨i + 1, by omega, by go_num, Lib.hid fun j hj => ?_, hbw, hgw⟩
            obtain ⟨r1, r2⟩ := HR.out j hj
            refine ⟨?_, r2⟩
            rw [r1]
            by_cases hj2 : j < i
            · rw [if_pos hj2, if_pos (by omega)]
            · by_cases hji : j = i
              · subst hji
                rw [if_neg (by omega), if_pos (by omega), HC.out, hu]
              · rw [if_neg hj2, if_neg (by omega)]
          case measure => simp [intOf]; omega
    · have hin : i = s.size := by omega
      have hback : Sem.run Tryd.prog (convert 62 9 (.slice (some ⟨g, 0, none⟩) s.size cp)) wr = .ok (.string (mapB loc s)) wr := by
        have hl : (s.data.toList.map loc).length = s.size := by simp
        have := run_convert_bytes_back (P := Tryd.prog) wr 62 9 5 ⟨g, 0, none⟩ cp (s.data.toList.map loc) Tryd.underlying62 Tryd.underlying5 Tryd.underlying9 (fun j hj => by
          rw [hl] at hj
          have h1 := (HR.out j hj).1
          rw [if_pos (by omega)] at h1
          have h2 : L.getD j 0 = s.data.toList[j]'(by simpa using hj) := by rw [← HL.out]; simp [List.getD, hj]
          rw [h2] at h1
          rw [show (⟨g, 0, none⟩ : Addr).add j = ⟨g, j, none⟩ by simp [Addr.add] <;> omega, h1]
          simp)
        rw [hl] at this
        exact this
      go_wp2_with fail
      go_ret
      exact ⟨rfl, hbw⟩

set_option maxRecDepth 100000 in
set_option maxHeartbeats 4000000 in
theorem runes_any (s : ByteArray) (w : World) (hs : s.size ≤ 64) :
    Calls Tryd.prog 22 #[.string s] w fun e w' => e = .returned (.int .i64 (Lib.runeCount s)) ∧ Ext w w' := by
  have hit : ∀ pos, Ext w (w.iter s pos) := fun pos => below_alloc1 w _
  have HIT := Lib.hid hit
  clear hit
  go_enter Tryd.func22, Tryd.ntmps22
  go_wp2_with fail
  go_loopw [3] (fun n w' => ∃ (pos b acc : Nat), w' = w.iter s pos ∧ n = .int .i64 acc ∧ acc + Lib.runeCountFrom s b pos = Lib.runeCount s ∧ s.size ≤ pos + b ∧ acc ≤ pos ∧ acc ≤ 1000) (fun _ w' => s.size - w'.iterPos w.heap.size)
  case atStart => exact ⟨0, s.size, 0, rfl, rfl, by simp [Lib.runeCount], by omega, Nat.le_refl _, by omega⟩
  case round =>
    obtain ⟨pos, b, acc, rfl, rfl, hc, hb, ha, ha2⟩ := hrel
    by_cases hp : pos < s.size
    · have hnx : ∀ ty, (Instr.next (.pointer (some ⟨w.heap.size, 0, none⟩)) true ty).run Tryd.prog (w.iter s pos) = _ := fun ty => run_next_any w s pos ty hp
      have hwd := Lib.decode_width_pos s pos hp
      go_wp2_with fail
      go_roundw
      case rel =>
        cases b with
        | zero => omega
        | succ b =>
          refine ⟨pos + (Utf8.decode s pos).2, b, acc + 1, rfl, by go_num, ?_, by omega, by omega, by omega⟩
          rw [← hc]
          simp [Lib.runeCountFrom, hp]
          omega
      case measure =>
        simp
        omega
    · have hnx : ∀ ty, (Instr.next (.pointer (some ⟨w.heap.size, 0, none⟩)) true ty).run Tryd.prog (w.iter s pos) = _ := fun ty => run_next_end w s pos ty hp
      go_wp2_with fail
      go_ret
      rw [Lib.runeCountFrom_end s b pos hp, Nat.add_zero] at hc
      subst hc
      exact ⟨rfl, HIT.out _⟩
/-- Behind the first so many bytes. -/
def TrimAt (L : List UInt8) (i : Nat) (o : ByteArray) (b : Bool) : Prop := o.data.toList = (trimF (L.take i)).1 ∧ b = (trimF (L.take i)).2
set_option maxRecDepth 100000 in
set_option maxHeartbeats 4000000 in
theorem trimmed_any (s : ByteArray) (w : World) (hs : s.size ≤ 64) :
    Calls Tryd.prog 24 #[.string s] w fun e w' => e = .returned (.string (trimB s)) ∧ Ext w w' := by
  have hE := Ext.refl w
  go_enter Tryd.func24, Tryd.ntmps24
  go_wp2_with fail
  go_loop [3, 4, 5, 8] (fun so sb _ si => ∃ (i : Nat) (o : ByteArray) (b : Bool), i ≤ s.size ∧ si = .int .i64 (i : Int) ∧ so = .string o ∧ sb = .bool b ∧ Hid (TrimAt s.data.toList i o b) ∧ o.size ≤ 64) (fun _ _ _ si => s.size - (intOf si).toNat)
  case atStart => exact ⟨0, ⟨#[]⟩, false, by omega, rfl, rfl, rfl, Lib.hid ⟨rfl, rfl⟩, by decide⟩
  case round =>
    obtain ⟨i, o, b, hi, rfl, rfl, rfl, HO, ho2⟩ := hrel
    by_cases hlt : i < s.size
    · obtain ⟨j, hj⟩ : ∃ j, i + 1 = j := ⟨_, rfl⟩
      have hij : (i : Int) + 1 = (j : Int) := by omega
      have hjs : j ≤ s.size := by omega
      have hile : i ≤ j := by omega
      obtain ⟨c, hc⟩ : ∃ c : UInt8, s[i]'hlt = c := ⟨_, rfl⟩
      have hex : s.extract i j = ⟨#[c]⟩ := by
        rw [← hj, ← hc]
        refine ByteArray.ext ?_
        rw [ByteArray.data_extract]
        apply Array.ext'
        have hl : i < s.data.toList.length := by simpa using hlt
        simp only [Array.toList_extract, List.extract_eq_take_drop, show i + 1 - i = 1 by omega]
        rw [List.drop_eq_getElem_cons hl]
        rfl
      have htk : s.data.toList.take j = s.data.toList.take i ++ [c] := by
        rw [← hj, List.take_add_one, ← hc]
        have hl : i < s.data.toList.length := by simpa using hlt
        rw [List.getElem?_eq_getElem hl]
        rfl
      have HTK : Hid (trimF (s.data.toList.take j) = trimStep (trimF (s.data.toList.take i)) c) := Lib.hid (by rw [htk, trimF_snoc])
      have hsz : (trimF (s.data.toList.take j)).1.length ≤ s.size := by
        have := trimF_len (s.data.toList.take j)
        have h2 : (s.data.toList.take j).length ≤ s.size := by rw [List.length_take]; simp; omega
        split at this <;> omega
      have HSZ := Lib.hid hsz
      have hc256 := c.toNat_lt
      have HEX := Lib.hid hex
      clear htk hsz
      by_cases h32 : c = 32
      · have h32' : ((s[i]'hlt).toNat : Int) == 32 := by rw [hc, h32]; rfl
        subst h32
        clear hex hc
        go_wp2_with fail
        go_round
        case rel =>
          obtain ⟨h1, h2⟩ := HO.out
          refine ⟨j, o, _, hjs, by go_num, rfl, rfl, Lib.hid ⟨?_, ?_⟩, ho2⟩
          · rw [HTK.out, h1]; rfl
          · rw [HTK.out, Lib.toList_data, h1]; rfl
        case measure => simp [intOf]; omega
      · have h32' : (((s[i]'hlt).toNat : Int) == 32) = false := by
          rw [hc, beq_eq_false_iff_ne]
          intro h
          exact h32 (UInt8.toNat_inj.1 (by simpa using Int.ofNat.inj h))
        cases b
        · have hsz2 : (o ++ (⟨#[c]⟩ : ByteArray)).data.toList = (trimF (s.data.toList.take j)).1 := by
            rw [HTK.out]
            obtain ⟨h1, h2⟩ := HO.out
            rw [ByteArray.data_append]
            unfold trimStep
            rw [if_neg h32, ← h2, ← h1]
            simp
          have hb2 : false = (trimF (s.data.toList.take j)).2 := by rw [HTK.out]; unfold trimStep; rw [if_neg h32]
          have hos : (o ++ (⟨#[c]⟩ : ByteArray)).size ≤ 64 := by
            have : (o ++ (⟨#[c]⟩ : ByteArray)).size = (o ++ (⟨#[c]⟩ : ByteArray)).data.toList.length := (Array.length_toList).symm
            rw [this, hsz2]; have := HSZ.out; omega
          have HP := Lib.hid (And.intro hsz2 (And.intro hb2 hos))
          clear hsz2 hb2 hos hc
          go_wp2_with fail
          go_round
          case rel => exact ⟨j, _, false, hjs, by go_num, rfl, rfl, Lib.hid ⟨HP.out.1, HP.out.2.1⟩, HP.out.2.2⟩
          case measure => simp [intOf]; omega
        · have hsz2 : ((o ++ (⟨#[32]⟩ : ByteArray)) ++ (⟨#[c]⟩ : ByteArray)).data.toList = (trimF (s.data.toList.take j)).1 := by
            rw [HTK.out]
            obtain ⟨h1, h2⟩ := HO.out
            rw [ByteArray.data_append, ByteArray.data_append]
            unfold trimStep
            rw [if_neg h32, ← h2, ← h1]
            simp
          have hb2 : false = (trimF (s.data.toList.take j)).2 := by rw [HTK.out]; unfold trimStep; rw [if_neg h32]
          have hos : ((o ++ (⟨#[32]⟩ : ByteArray)) ++ (⟨#[c]⟩ : ByteArray)).size ≤ 64 := by
            have : ((o ++ (⟨#[32]⟩ : ByteArray)) ++ (⟨#[c]⟩ : ByteArray)).size = ((o ++ (⟨#[32]⟩ : ByteArray)) ++ (⟨#[c]⟩ : ByteArray)).data.toList.length := (Array.length_toList).symm
            rw [this, hsz2]; have := HSZ.out; omega
          have HP := Lib.hid (And.intro hsz2 (And.intro hb2 hos))
          have ho3 : (o ++ (⟨#[32]⟩ : ByteArray)).size ≤ 65 := by rw [ByteArray.size_append]; have : ByteArray.size ⟨#[32]⟩ = 1 := rfl; omega
          clear hsz2 hb2 hos hc
          go_wp2_with fail
          go_round
          case rel => exact ⟨j, _, false, hjs, by go_num, rfl, rfl, Lib.hid ⟨HP.out.1, HP.out.2.1⟩, HP.out.2.2⟩
          case measure => simp [intOf]; omega
    · have hin : i = s.size := by omega
      have hfin : o = trimB s := by
        obtain ⟨h1, h2⟩ := HO.out
        refine ByteArray.ext (Array.ext' ?_)
        rw [h1, hin]
        show (trimF (s.data.toList.take s.size)).1 = (trimF s.data.toList).1
        rw [show s.size = s.data.toList.length by simp, List.take_length]
      have HF := Lib.hid hfin
      clear hfin
      go_wp2_with fail
      go_ret
      exact ⟨by rw [HF.out]; rfl, hE⟩
end Go.Proofs.YtmdlahkmnjmanaaDoor
