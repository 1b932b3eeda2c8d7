/-
  ShowAgain: walk. Conditions: the arguments' own.
-/
import Derived.Test.YtbnebiobahajjaaGreatDoorShK
import Derived.Test.YtbnebiobahajjaaGreatDoorShD
import Derived.Lib.MapLaws
import Derived.Lib.RuneCount
import Derived.Laws.RangeAny
import Derived.Laws.RangeString
namespace Go.Proofs.YtbnebiobahajjaaGreatDoor.showAgain
open Go.RowKit
set_option linter.unusedVariables false
set_option linter.unusedSimpArgs false

theorem cnt_at {l : List UInt8} {pos : Nat} (h : pos < l.length) : (l.drop pos).count 40 = (if (l.getD pos 0).toNat = 40 then 1 else 0) + (l.drop (pos + 1)).count 40 := by
  rw [List.drop_eq_getElem_cons h, List.count_cons, Nat.add_comm]
  have h1 : l.getD pos 0 = l[pos] := by simp [List.getD, h]
  rw [h1]
  by_cases h2 : l[pos] = 40
  · simp [h2]
  · have h3 : ¬ l[pos].toNat = 40 := fun h3 => h2 (UInt8.toNat_inj.1 h3)
    simp [h2, h3]
theorem cnt_skip {l : List UInt8} {pos : Nat} (h : pos < l.length) (hb : 128 ≤ (l.getD pos 0).toNat) : (l.drop pos).count 40 = (l.drop (pos + 1)).count 40 := by
  rw [cnt_at h, if_neg (by omega), Nat.zero_add]
/-- What one rune holds of '('. -/
theorem cnt_rune (s : ByteArray) (pos : Nat) (h : pos < s.data.toList.length) : (s.data.toList.drop pos).count 40 = (if (Utf8.decode s pos).1 = 40 then 1 else 0) + (s.data.toList.drop (pos + (Utf8.decode s pos).2)).count 40 := by
  rw [Lib.decode_N]
  obtain ⟨l, hl⟩ : ∃ l, s.data.toList = l := ⟨_, rfl⟩
  rw [hl] at h ⊢
  by_cases ha : (l.getD pos 0).toNat < 128
  · rw [Lib.decodeN_ascii _ _ _ _ _ ha]
    exact cnt_at h
  rcases Lib.decodeN_shape (l.length - pos) (l.getD pos 0).toNat (l.getD (pos + 1) 0).toNat (l.getD (pos + 2) 0).toNat (l.getD (pos + 3) 0).toNat with ⟨h1, -⟩ | ⟨h1, h2, h3, h4, h5⟩ | ⟨h1, h2, h3, h3', h4, h4', h5⟩ | ⟨h1, h2, h3, h3', h3'', h4, h4', h5⟩ | h5
  · exact absurd h1 ha
  · rw [h5, if_neg (by simp only; omega), cnt_skip h (by omega), cnt_skip (pos := pos + 1) (by omega) (by omega)]
    simp
  · rw [h5, if_neg (by simp only; omega), cnt_skip h (by omega), cnt_skip (pos := pos + 1) (by omega) (by omega), cnt_skip (pos := pos + 2) (by omega) (by omega)]
    simp
  · rw [h5, if_neg (by simp only; omega), cnt_skip h (by omega), cnt_skip (pos := pos + 1) (by omega) (by omega), cnt_skip (pos := pos + 2) (by omega) (by omega), cnt_skip (pos := pos + 3) (by omega) (by omega)]
    simp
  · rw [h5, if_neg (by simp), cnt_skip h (by omega)]
    simp
set_option maxRecDepth 100000 in
set_option maxHeartbeats 4000000 in
theorem brackets_any (s : ByteArray) (w : World) (hs : s.size ≤ 400) :
    Calls Tryz.prog 12 #[.string s] w fun e w' => e = .returned (.int .i64 ((s.data.toList.count 40 : Nat) : Int)) ∧ Ext w w' := by
  have hit : ∀ pos, Ext w (w.iter s pos) := fun pos => below_alloc1 w _
  have HIT := Lib.hid hit
  have hsl : s.data.toList.length = s.size := by simp
  have HSL := Lib.hid hsl
  have HC0 : Hid (s.data.toList.count 40 ≤ 400) := Lib.hid (by have := List.count_le_length (a := (40 : UInt8)) (l := s.data.toList); omega)
  clear hit hsl
  go_enter Tryz.func12, Tryz.ntmps12
  go_wp2_with fail
  go_loopw [3] (fun n w' => ∃ (pos acc : Nat), w' = w.iter s pos ∧ n = .int .i64 acc ∧ Hid (acc + (s.data.toList.drop pos).count 40 = s.data.toList.count 40)) (fun _ w' => s.size - w'.iterPos w.heap.size)
  case atStart => exact ⟨0, 0, rfl, rfl, Lib.hid (by simp)⟩
  case round =>
    obtain ⟨pos, acc, rfl, rfl, HC⟩ := hrel
    by_cases hp : pos < s.size
    · have hnx : ∀ ty, (Instr.next (.pointer (some ⟨w.heap.size, 0, none⟩)) true ty).run Tryz.prog (w.iter s pos) = _ := fun ty => run_next_any w s pos ty hp
      have hwd := Lib.decode_width_pos s pos hp
      have hcr := cnt_rune s pos (by rw [HSL.out]; exact hp)
      have hacc : (acc : Int) ≤ 400 := by have := HC.out; have := HC0.out; omega
      obtain ⟨r, hr⟩ : ∃ r, (Utf8.decode s pos).1 = r := ⟨_, rfl⟩
      obtain ⟨wd, hw⟩ : ∃ wd, (Utf8.decode s pos).2 = wd := ⟨_, rfl⟩
      simp only [hr, hw] at hnx
      rw [hw] at hwd
      rw [hr, hw] at hcr
      have HCR := Lib.hid hcr
      have HWD := Lib.hid hwd
      have HPP := Lib.hid hp
      clear hr hw hcr hwd
      by_cases h40 : r = 40
      · subst h40
        go_wp2_with fail
        go_roundw
        case rel => exact ⟨pos + wd, acc + 1, rfl, by first | rfl | go_num, Lib.hid (by have h1 := HC.out; have h2 := HCR.out; rw [if_pos rfl] at h2; omega)⟩
        case measure =>
          have := HWD.out
          have := HPP.out
          simp
          omega
      · have h40' : ¬ (r : Int) = 40 := by omega
        have HN : Hid (¬ r = 40) := Lib.hid h40
        clear h40
        go_wp2_with fail
        go_roundw
        case rel => exact ⟨pos + wd, acc, rfl, by first | rfl | go_num, Lib.hid (by have h1 := HC.out; have h2 := HCR.out; rw [if_neg HN.out] at h2; omega)⟩
        case measure =>
          have := HWD.out
          have := HPP.out
          simp
          omega
    · have hnx : ∀ ty, (Instr.next (.pointer (some ⟨w.heap.size, 0, none⟩)) true ty).run Tryz.prog (w.iter s pos) = _ := fun ty => run_next_end w s pos ty hp
      have HA : Hid (s.data.toList.count 40 = acc) := Lib.hid (by
        have h1 := HC.out
        rw [List.drop_of_length_le (by rw [HSL.out]; omega)] at h1
        simpa using h1.symm)
      go_wp2_with fail
      go_ret
      exact ⟨by rw [HA.out]; rfl, HIT.out _⟩
theorem op_len1 {op : Int} (h : 1 ≤ op ∧ op ≤ 11) : 1 ≤ (opL op).length := by
  have hk : ∀ k, k < 11 → 1 ≤ (opsLit.getD k []).length := by decide
  exact hk _ (by omega)
theorem head1 {l : List Pc} (h : HdB l) : 1 ≤ (src l).length := by
  obtain ⟨q, m, rfl, ⟨c, r, hq, -⟩, -⟩ := h
  rw [src_len_cons, hq, List.length_cons]
  omega
theorem brk_more (b : Bool) (l : List Pc) : (src l).length ≤ (src (brk b l)).length := by
  cases b <;> simp [brk, src]
  omega
theorem sizes_tail (p : Int) : ∀ ts : List Tr, (∀ t ∈ ts, ∀ v, sizeT t ≤ (src (pcs p v t)).length) → sizeL ts ≤ (src ((ts.map (pcs p 0)).flatMap fun y => signP [44] :: y)).length
  | [], _ => by simp [sizeL]
  | t :: r, h => by
    have h1 := h t (by simp) 0
    have h2 := sizes_tail p r (fun x hx => h x (List.mem_cons_of_mem _ hx))
    simp only [List.map_cons, List.flatMap_cons, src_len_app, src_len_cons, sizeL]
    omega
theorem sizes_join (p : Int) : ∀ ts : List Tr, (∀ t ∈ ts, ∀ v, sizeT t ≤ (src (pcs p v t)).length) → sizeL ts ≤ (src (joinP (ts.map (pcs p 0)))).length
  | [], _ => by simp [sizeL]
  | t :: r, h => by
    have h1 := h t (by simp) 0
    have h2 := sizes_tail p r (fun x hx => h x (List.mem_cons_of_mem _ hx))
    simp only [List.map_cons, sizeL]
    rw [joinP, src_len_app]
    omega
theorem size_le (p : Int) {t : Tr} (h : GT t) : ∀ v, sizeT t ≤ (src (pcs p v t)).length := by
  have hh := gt_head p h
  induction h with
  | lit k n s h h0 hn hs => intro v; simpa [sizeT, sizeL] using head1 (hh v)
  | one r h => intro v; simpa [sizeT, sizeL] using head1 (hh v)
  | area a b h h' hs => intro v; simpa [sizeT, sizeL] using head1 (hh v)
  | word l h => intro v; simpa [sizeT, sizeL, wordT] using head1 (hh v)
  | neg t h ih =>
    intro v
    have h1 := ih (gt_head p h) 4
    have h2 := brk_more (decide (4 < v)) (signP [45] :: pcs p 4 t)
    have h3 : (signP [45]).2.2.length = 1 := rfl
    rw [src_len_cons, h3] at h2
    rw [pcs_neg]
    simp only [sizeT, sizeL]
    omega
  | pct t h ih =>
    intro v
    have h1 := ih (gt_head p h) 5
    have h3 : (src [signP [37]]).length = 1 := rfl
    rw [pcs_pct, src_len_app, h3]
    simp only [sizeT, sizeL]
    omega
  | bin op t u h ht hu iht ihu =>
    intro v
    have h1 := iht (gt_head p ht) (lvlOf op)
    have h2 := ihu (gt_head p hu) (lvlOf op + 1)
    have h3 := brk_more (decide (lvlOf op < v)) (pcs p (lvlOf op) t ++ signP (opL op) :: pcs p (lvlOf op + 1) u)
    have h4 : (signP (opL op)).2.2.length = (opL op).length := rfl
    have h5 := op_len1 h
    rw [src_len_app, src_len_cons, h4] at h3
    rw [pcs_bin]
    simp only [sizeT, sizeL]
    omega
  | call f ts h ht ih =>
    intro v
    have h1 := sizes_join p ts (fun t htm => ih t htm (gt_head p (ht t htm)))
    have h3 : (signP [40]).2.2.length = 1 := rfl
    rw [pcs_call, src_len_cons, src_len_cons, src_len_app, h3]
    simp only [sizeT]
    omega
set_option maxRecDepth 100000 in
set_option maxHeartbeats 8000000 in
theorem walk (S : ByteArray) (W : World) (wS : S.size ≤ 9223372036854775807) (hE : EnvX W) :
    Calls Tryz.prog 4 #[.string S] W fun e w' => e = .returned (.bool true) ∧ Below W.heap.size W w' := by
  have HE := Lib.hid hE
  have HF := Lib.hid (fit7 W hE)
  clear hE
  go_enter Tryz.func4, Tryz.ntmps4
  go_wp2_with fail
  refine HF.out.mono ?_
  rintro e w2 ⟨rfl, hX2⟩
  have HX2 := Lib.hid hX2
  clear hX2 HF
  by_cases hz : 100 < S.size
  · have hz' : (100 : Int) < (S.size : Int) := by omega
    go_wp2_with fail
    go_ret
    exact ⟨rfl, HX2.out⟩
  have hz' : (S.size : Int) ≤ 100 := by omega
  have HLEN : Hid (S.data.toList.length = S.size) := Lib.hid (by simp)
  have HZ : Hid (S.size ≤ 100) := Lib.hid (by omega)
  obtain ⟨R, hR⟩ := Option.ne_none_iff_exists'.1 (parse_ends S.data.toList 0)
  have hP := pars_any S.data.toList 0 R w2 hR (by decide) (HE.out.ext HX2.out)
  rw [mk_self] at hP
  have HP := Lib.hid hP
  have HO := Lib.hid (parse_out (fun _ => 0) (fun _ => 0) ⟨fun _ _ => Nat.le_refl _, fun _ _ _ _ => Nat.le_refl _, fun _ _ => Nat.le_refl _, fun _ _ => Nat.le_refl _, fun _ _ _ _ _ _ => Nat.le_refl _, fun _ _ _ => Nat.le_refl _⟩ (by decide) hR)
  have HR := Lib.hid hR
  clear hP hR hz
  go_wp2_with fail
  refine HP.out.mono ?_
  rintro e w3 ⟨hX3, ⟨t, f, rfl, rfl, hRep⟩ | ⟨c, p, rfl, rfl⟩⟩
  · obtain ⟨hg, hback, hcnt, hlen⟩ := told_again HR.out (by rw [HLEN.out]; exact HZ.out)
    have hsz : sizeT t ≤ 1000000000 := by have := size_le 0 hg 0; unfold shT at hlen; omega
    obtain ⟨W4, hW4, hE4, hG4, hL4, hS4⟩ := new_blk w3 f.cells 33
    have HW4 := Lib.hid hW4
    have HG4 := Lib.hid hG4
    have HX4 := Lib.hid (hX3.trans hE4)
    have HE4 := Lib.hid (HE.out.ext (HX2.out.trans HX4.out))
    have HR4 := Lib.hid ((hRep.ext hE4).imp' (S' := fun _ => True) fun _ _ _ => trivial)
    obtain ⟨A, hA⟩ : ∃ A, mk (shT 0 0 t) = A := ⟨_, rfl⟩
    have hAs : (A.size : Int) ≤ 200 := by rw [← hA, mk_size]; omega
    have HAS : Hid (A.size ≤ 400) := Lib.hid (by omega)
    have HFO := Lib.hid (fun f' w (hr : Rep w (fun _ => True) t f') (hE : EnvQ w) => formula_text 0 hg hsz f' _ w hr hE)
    rw [hA] at HFO
    have HPA := Lib.hid (fun w (hE : EnvX w) => pars_any (shT 0 0 t) 0 _ w hback (by decide) hE)
    rw [hA] at HPA
    have hAL : A.data.toList = shT 0 0 t := by rw [← hA, mk_list]
    obtain ⟨n, hn⟩ : ∃ n, A.data.toList.count 40 = n := ⟨_, rfl⟩
    obtain ⟨m, hm⟩ : ∃ m, S.data.toList.count 40 = m := ⟨_, rfl⟩
    have hnm : (n : Int) ≤ (m : Int) := by rw [← hn, ← hm, hAL]; omega
    have HBA := Lib.hid (fun w => brackets_any A w HAS.out)
    have HBS := Lib.hid (fun w => brackets_any S w (by have := HZ.out; omega))
    rw [hn] at HBA
    rw [hm] at HBS
    clear hX3 hRep hW4 hE4 hL4 hS4 hg hback hcnt hlen hsz hA hAL hn hm HP HO HR
    unfold Fl.val
    go_upto_region 6 with (first | ((with_reducible refine wpl_guard (isStore 33) ?_ ?_); (· rfl); refine wpl_store (t := ?_) (old := ?_) (w' := ?_) rfl 33 _ _ rfl rfl rfl ?_ ?_ ?_ ?_ ?_ ?_; rotate_left 2; (· (first | (with_reducible assumption) | (simp (disch := (first | omega | (simp only [World.size_alloc, World.size_setCell, World.size_drew, size_setRow]; done) | (simp only [World.size_alloc, World.size_setCell, World.size_drew, size_setRow]; omega))) only [hq_at, hq_past, hq_drew, hq_drewN, hq_cell, hq_row, hq_same, rowOf_cells, Option.map_some, *]; rfl) | (simp (disch := (first | omega | (simp only [World.size_alloc, World.size_setCell, World.size_drew, size_setRow]; done) | (simp only [World.size_alloc, World.size_setCell, World.size_drew, size_setRow]; omega))) only [hq_at, hq_past, hq_drew, hq_drewN, hq_cell, hq_row, hq_same, rowOf_cells, Option.map_some, *]))); (· kernel_rfl); (· rfl); (· rfl); rotate_left 1; (· (first | (simp (disch := (first | omega | (simp only [World.size_alloc, World.size_setCell, World.size_drew, size_setRow]; done) | (simp only [World.size_alloc, World.size_setCell, World.size_drew, size_setRow]; omega))) only [setRow_at, setRow_past, setRow_drew]; rfl) | rfl))))
    rw [HW4.out]
    clear HW4
    go_wp2_with (first | ((with_reducible refine wpl_guard (isLoad 33) ?_ ?_); (· rfl); refine wpl_load (t := ?_) (cs := ?_) (fr := ?_) rfl 33 _ rfl rfl ?_ Tryz.underlying33 rfl ?_ ?_; rotate_left 3; (· (first | (with_reducible assumption) | (simp (disch := (first | omega | (simp only [World.size_alloc, World.size_setCell, World.size_drew, size_setRow]; done) | (simp only [World.size_alloc, World.size_setCell, World.size_drew, size_setRow]; omega))) only [hq_at, hq_past, hq_drew, hq_drewN, hq_cell, hq_row, hq_same, rowOf_cells, Option.map_some, *]; rfl) | (simp (disch := (first | omega | (simp only [World.size_alloc, World.size_setCell, World.size_drew, size_setRow]; done) | (simp only [World.size_alloc, World.size_setCell, World.size_drew, size_setRow]; omega))) only [hq_at, hq_past, hq_drew, hq_drewN, hq_cell, hq_row, hq_same, rowOf_cells, Option.map_some, *]))); (· kernel_rfl); (try dsimp only [Act.put, List.setIfInBounds_toArray, List.set_cons_zero, List.set_cons_succ])))
    refine (HFO.out f W4 HR4.out HE4.out.1).mono ?_
    rintro e w5 ⟨rfl, hX5⟩
    have HX5 := Lib.hid hX5
    have HG5 := Lib.hid (hX5.blk HG4.out)
    clear hX5 hG4
    go_wp2_with fail
    refine (HPA.out w5 (HE4.out.ext HX5.out)).mono ?_
    rintro e w6 ⟨hX6, ⟨t', f', hR', rfl, hRep⟩ | ⟨c, p, hR', -⟩⟩
    case inr => cases hR'
    injection hR' with hR'
    subst hR'
    obtain ⟨W7, hW7, hE7, hG7, hL7, hS7⟩ := new_blk w6 f'.cells 33
    have HW7 := Lib.hid hW7
    have HX7 := Lib.hid (hX6.trans hE7)
    have HG7 := Lib.hid hG7
    have hg4 := (hX6.trans hE7).blk HG5.out
    have HR7 : Hid (Rep W7 (fun _ => True) t f') := Lib.hid ((hRep.ext hE7).imp' fun _ _ _ => trivial)
    have hsame := same_any (sizeT t) t t f f' (fun _ => True) W7 (Nat.le_refl _) ((HR4.out.ext HX5.out).ext HX7.out) HR7.out
    rw [sameT_self] at hsame
    have HSM := Lib.hid hsame
    have HE7 := Lib.hid (HE4.out.ext (HX5.out.trans HX7.out))
    clear hX6 hRep hW7 hE7 hL7 hS7 hsame HPA
    unfold Fl.val at HSM ⊢
    go_upto_region 10 with (first | ((with_reducible refine wpl_guard (isStore 33) ?_ ?_); (· rfl); refine wpl_store (t := ?_) (old := ?_) (w' := ?_) rfl 33 _ _ rfl rfl rfl ?_ ?_ ?_ ?_ ?_ ?_; rotate_left 2; (· (first | (with_reducible assumption) | (simp (disch := (first | omega | (simp only [World.size_alloc, World.size_setCell, World.size_drew, size_setRow]; done) | (simp only [World.size_alloc, World.size_setCell, World.size_drew, size_setRow]; omega))) only [hq_at, hq_past, hq_drew, hq_drewN, hq_cell, hq_row, hq_same, rowOf_cells, Option.map_some, *]; rfl) | (simp (disch := (first | omega | (simp only [World.size_alloc, World.size_setCell, World.size_drew, size_setRow]; done) | (simp only [World.size_alloc, World.size_setCell, World.size_drew, size_setRow]; omega))) only [hq_at, hq_past, hq_drew, hq_drewN, hq_cell, hq_row, hq_same, rowOf_cells, Option.map_some, *]))); (· kernel_rfl); (· rfl); (· rfl); rotate_left 1; (· (first | (simp (disch := (first | omega | (simp only [World.size_alloc, World.size_setCell, World.size_drew, size_setRow]; done) | (simp only [World.size_alloc, World.size_setCell, World.size_drew, size_setRow]; omega))) only [setRow_at, setRow_past, setRow_drew]; rfl) | rfl))))
    rw [HW7.out]
    clear HW7
    go_wp2_with (first | ((with_reducible refine wpl_guard (isLoad 33) ?_ ?_); (· rfl); refine wpl_load_want (t := ?_) (cs := ?_) (fr := ?_) (by rfl) 33 _ rfl rfl ?_ Tryz.underlying33 rfl ?_ ?_; rotate_left 3; (· (first | (with_reducible assumption) | (simp (disch := (first | omega | (simp only [World.size_alloc, World.size_setCell, World.size_drew, size_setRow]; done) | (simp only [World.size_alloc, World.size_setCell, World.size_drew, size_setRow]; omega))) only [hq_at, hq_past, hq_drew, hq_drewN, hq_cell, hq_row, hq_same, rowOf_cells, Option.map_some, *]; rfl) | (simp (disch := (first | omega | (simp only [World.size_alloc, World.size_setCell, World.size_drew, size_setRow]; done) | (simp only [World.size_alloc, World.size_setCell, World.size_drew, size_setRow]; omega))) only [hq_at, hq_past, hq_drew, hq_drewN, hq_cell, hq_row, hq_same, rowOf_cells, Option.map_some, *]))); (· kernel_rfl); (try dsimp only [Act.put, List.setIfInBounds_toArray, List.set_cons_zero, List.set_cons_succ])))
    refine HSM.out.mono ?_
    rintro e w8 ⟨rfl, hX8⟩
    have HX8 := Lib.hid hX8
    have hg7 := hX8.blk HG7.out
    clear hX8 HSM hG7 hg4
    go_wp2_with (first | ((with_reducible refine wpl_guard (isLoad 33) ?_ ?_); (· rfl); refine wpl_load_want (t := ?_) (cs := ?_) (fr := ?_) (by rfl) 33 _ rfl rfl ?_ Tryz.underlying33 rfl ?_ ?_; rotate_left 3; (· (first | (with_reducible assumption) | (simp (disch := (first | omega | (simp only [World.size_alloc, World.size_setCell, World.size_drew, size_setRow]; done) | (simp only [World.size_alloc, World.size_setCell, World.size_drew, size_setRow]; omega))) only [hq_at, hq_past, hq_drew, hq_drewN, hq_cell, hq_row, hq_same, rowOf_cells, Option.map_some, *]; rfl) | (simp (disch := (first | omega | (simp only [World.size_alloc, World.size_setCell, World.size_drew, size_setRow]; done) | (simp only [World.size_alloc, World.size_setCell, World.size_drew, size_setRow]; omega))) only [hq_at, hq_past, hq_drew, hq_drewN, hq_cell, hq_row, hq_same, rowOf_cells, Option.map_some, *]))); (· kernel_rfl); (try dsimp only [Act.put, List.setIfInBounds_toArray, List.set_cons_zero, List.set_cons_succ])))
    refine (HFO.out f' w8 (HR7.out.ext HX8.out) (HE7.out.ext HX8.out).1).mono ?_
    rintro e w9 ⟨rfl, hX9⟩
    have HX9 := Lib.hid hX9
    clear hX9 hg7
    go_wp2_with fail
    refine (HBA.out w9).mono ?_
    rintro e w10 ⟨rfl, hX10⟩
    have HX10 := Lib.hid hX10
    clear hX10
    go_wp2_with fail
    refine (HBS.out w10).mono ?_
    rintro e w11 ⟨rfl, hX11⟩
    have HX11 := Lib.hid hX11
    clear hX11
    go_wp2_with fail
    go_ret
    exact ⟨rfl, HX2.out.trans (HX4.out.trans (HX5.out.trans (HX7.out.trans (HX8.out.trans (HX9.out.trans (HX10.out.trans HX11.out))))))⟩
  · obtain ⟨h1, -⟩ := HO.out
    have hc : ¬ (c : Int) = 0 := by omega
    obtain ⟨W4, hW4, hE4, hG4, hL4, hS4⟩ := new_blk w3 zF.cells 33
    have HW4 := Lib.hid hW4
    have HX4 := Lib.hid (hX3.trans hE4)
    clear hX3 hW4 hE4 hG4 hL4 hS4 h1 HP HO HR
    unfold Fl.val
    go_upto_region 6 with (first | ((with_reducible refine wpl_guard (isStore 33) ?_ ?_); (· rfl); refine wpl_store (t := ?_) (old := ?_) (w' := ?_) rfl 33 _ _ rfl rfl rfl ?_ ?_ ?_ ?_ ?_ ?_; rotate_left 2; (· (first | (with_reducible assumption) | (simp (disch := (first | omega | (simp only [World.size_alloc, World.size_setCell, World.size_drew, size_setRow]; done) | (simp only [World.size_alloc, World.size_setCell, World.size_drew, size_setRow]; omega))) only [hq_at, hq_past, hq_drew, hq_drewN, hq_cell, hq_row, hq_same, rowOf_cells, Option.map_some, *]; rfl) | (simp (disch := (first | omega | (simp only [World.size_alloc, World.size_setCell, World.size_drew, size_setRow]; done) | (simp only [World.size_alloc, World.size_setCell, World.size_drew, size_setRow]; omega))) only [hq_at, hq_past, hq_drew, hq_drewN, hq_cell, hq_row, hq_same, rowOf_cells, Option.map_some, *]))); (· kernel_rfl); (· rfl); (· rfl); rotate_left 1; (· (first | (simp (disch := (first | omega | (simp only [World.size_alloc, World.size_setCell, World.size_drew, size_setRow]; done) | (simp only [World.size_alloc, World.size_setCell, World.size_drew, size_setRow]; omega))) only [setRow_at, setRow_past, setRow_drew]; rfl) | rfl))))
    rw [HW4.out]
    clear HW4
    go_wp2_with fail
    go_ret
    exact ⟨rfl, HX2.out.trans HX4.out⟩
end Go.Proofs.YtbnebiobahajjaaGreatDoor.showAgain
