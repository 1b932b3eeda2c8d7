/-
  show: literals: walks. Conditions: each theorem's own.
-/
import Derived.Test.YtbnebiobahajjaaGreatDoorParT
import Derived.Test.YtbnebiobahajjaaGreatDoorShC
import Derived.Test.YtbnebiobahajjaaGreatDoorPrintW
import Derived.Lib.ReplaceLaws
import Derived.Deep.CutBlock
import Derived.Deep.DeepCutAuto
namespace Go.Proofs.YtbnebiobahajjaaGreatDoor
open Go.RowKit
set_option linter.unusedVariables false
set_option linter.unusedSimpArgs false

/-! ### strings.ReplaceAll, of marks -/
theorem idx34 : ∀ l : List UInt8, (34 ∉ l ∧ Lib.index l [34] = -1) ∨ ∃ a r, l = a ++ 34 :: r ∧ 34 ∉ a ∧ Lib.index l [34] = (a.length : Int)
  | [] => .inl ⟨by simp, rfl⟩
  | b :: l => by
    by_cases hb : b = 34
    · subst hb
      exact .inr ⟨[], l, rfl, by simp, by simp [Lib.index, List.isPrefixOf]⟩
    · have hb' : (34 == b) = false := by rw [beq_eq_false_iff_ne]; exact fun e => hb e.symm
      rcases idx34 l with ⟨h1, h2⟩ | ⟨a, r, rfl, h1, h2⟩
      · refine .inl ⟨by simp only [List.mem_cons, not_or]; exact ⟨fun e => hb e.symm, h1⟩, ?_⟩
        unfold Lib.index
        rw [h2]
        simp [List.isPrefixOf, hb']
      · refine .inr ⟨b :: a, r, rfl, by simp only [List.mem_cons, not_or]; exact ⟨fun e => hb e.symm, h1⟩, ?_⟩
        unfold Lib.index
        rw [h2]
        have : ((a.length : Int) == -1) = false := by rw [beq_eq_false_iff_ne]; omega
        simp [List.isPrefixOf, hb', this]
theorem esc_none : ∀ {l : List UInt8}, 34 ∉ l → escL l = l
  | [], _ => rfl
  | b :: l, h => by
    have hb : ¬ b.toNat = 34 := fun e => h (by rw [show b = 34 from UInt8.toNat.inj e]; simp)
    simp [escL, hb, esc_none (fun hm => h (List.mem_cons_of_mem _ hm))]
theorem esc_some : ∀ {a r : List UInt8}, 34 ∉ a → escL (a ++ 34 :: r) = a ++ [34, 34] ++ escL r
  | [], r, _ => by simp [escL]
  | b :: a, r, h => by
    have hb : ¬ b.toNat = 34 := fun e => h (by rw [show b = 34 from UInt8.toNat.inj e]; simp)
    simp [escL, hb, esc_some (r := r) (fun hm => h (List.mem_cons_of_mem _ hm))]
theorem rep_esc : ∀ (n : Nat) (l : List UInt8), l.length ≤ n → Lib.replaceK [34] [34, 34] (Lib.count l [34]) l = escL l
  | 0, l, h => by
    obtain rfl := List.eq_nil_of_length_eq_zero (Nat.le_zero.1 h)
    rfl
  | n + 1, l, h => by
    rcases idx34 l with ⟨h1, h2⟩ | ⟨a, r, rfl, h1, h2⟩
    · rw [Lib.count_miss h2, esc_none h1]
      rfl
    · rw [Lib.count_hit (by simp) h2, Nat.add_comm 1, Lib.replaceK_hit _ _ _ _ _ h2, esc_some h1]
      have hd : (a ++ 34 :: r).drop (a.length + ([34] : List UInt8).length) = r := by
        rw [show a.length + ([34] : List UInt8).length = a.length + 1 from rfl, List.drop_append]
        simp
      rw [hd, rep_esc n r (by simp at h; omega)]
      simp
theorem replace_esc (l : List UInt8) : Lib.replaceAll l [34] [34, 34] = escL l := by
  unfold Lib.replaceAll Lib.replace
  rw [if_neg (by decide), Lib.replaceNum, if_pos (.inl (by decide))]
  exact rep_esc l.length l (Nat.le_refl _)
theorem esc_size : ∀ l : List UInt8, (escL l).length ≤ 2 * l.length
  | [] => Nat.le_refl _
  | d :: l => by
    have := esc_size l
    rw [escL]
    split <;> simp <;> omega
theorem mk_both (a b : List UInt8) : mk a ++ mk b = mk (a ++ b) := by
  apply ByteArray.ext
  simp [mk]
theorem repl_any (s : ByteArray) (w : World) (hs : s.size ≤ 1000) (hm : MaxI w) : Calls Tryz.prog 45 #[.string s, .string ⟨#[34]⟩, .string ⟨#[34, 34]⟩] w fun e w' => e = .returned (.string (mk (escL s.data.toList))) ∧ Ext w w' := by
  obtain ⟨m, hm⟩ := hm
  have hc := Lib.countB_le ⟨#[34]⟩ (by decide) s.size s (Nat.le_refl _)
  have h := Tryz.strings_ReplaceAll s ⟨#[34]⟩ ⟨#[34, 34]⟩ m w (by omega) hm (by decide) (by
    show s.size + Lib.countB s ⟨#[34]⟩ * 2 ≤ 140737488355328
    omega)
  refine h.mono ?_
  rintro e w' ⟨rfl, hE⟩
  refine ⟨?_, hE⟩
  rw [show (⟨#[34]⟩ : ByteArray).data.toList = [34] from rfl, show (⟨#[34, 34]⟩ : ByteArray).data.toList = [34, 34] from rfl, replace_esc]
  rfl
/-! ### Values told -/
set_option maxRecDepth 100000 in
set_option maxHeartbeats 4000000 in
theorem shnum_any (n : Int) (w : World) (hn : -9223372036854775807 ≤ n ∧ n ≤ 9223372036854775807) : Calls Tryz.prog 47 #[vlV 1 n ⟨#[]⟩] w fun e w' => e = .returned (.string ⟨(Num.txt n).toArray⟩) ∧ Ext w w' := by
  have HP := Lib.hid (fun w => print_any n w hn)
  clear hn
  go_enter Tryz.func47, Tryz.ntmps47
  go_wp2_with fail
  refine (HP.out _).mono ?_
  rintro e w1 ⟨rfl, hE1⟩
  go_wp2_with fail
  go_ret
  exact ⟨rfl, ext_dig hE1⟩
set_option maxRecDepth 100000 in
set_option maxHeartbeats 4000000 in
theorem shbool_any (n : Int) (w : World) (hn : n = 0 ∨ n = 1) : Calls Tryz.prog 47 #[vlV 3 n ⟨#[]⟩] w fun e w' => e = .returned (.string (mk (if n = 1 then [84, 82, 85, 69] else [70, 65, 76, 83, 69]))) ∧ Ext w w' := by
  rcases hn with rfl | rfl
  all_goals
    go_enter Tryz.func47, Tryz.ntmps47
    go_wp2_with fail
    go_ret
    exact ⟨rfl, below_alloc1 _ _⟩
set_option maxRecDepth 100000 in
set_option maxHeartbeats 4000000 in
theorem sherr_any (n : Int) (w : World) (hn : 1 ≤ n ∧ n ≤ 7) (ht : Tab w) : Calls Tryz.prog 47 #[vlV 4 n ⟨#[]⟩] w fun e w' => e = .returned (.string (mk (errLit.getD (n.toNat - 1) []))) ∧ Ext w w' := by
  have HP := Lib.hid (fun w (ht : Tab w) => ename_any n w ht)
  have HT := Lib.hid (ht.alloc (.cells #[.int .i64 4, .int .i64 n, .string ⟨#[]⟩] 26))
  have HV : Hid (errName n = mk (errLit.getD (n.toNat - 1) [])) := Lib.hid (by
    obtain ⟨x, h1, h2, -⟩ := err_at (n.toNat - 1) (by omega)
    rw [show ((n.toNat - 1 : Nat) : Int) + 1 = n by omega] at h2
    rw [h2, List.getD_eq_getElem?_getD, h1]
    rfl)
  have hn2 : (n : Int) ≤ 7 := hn.2
  have hn1 : (1 : Int) ≤ n := hn.1
  have hw : IntKind.i64.wrap n = n := IntWalk.i64_in _ ⟨by omega, by omega⟩
  clear ht hn
  go_enter Tryz.func47, Tryz.ntmps47
  go_wp2_with fail
  refine (HP.out _ HT.out).mono ?_
  rintro e w1 ⟨rfl, hE1⟩
  rw [HV.out]
  go_wp2_with fail
  go_ret
  exact ⟨rfl, ext_dig hE1⟩
set_option maxRecDepth 100000 in
set_option maxHeartbeats 8000000 in
/-- **A value's text in a formula.** -/
theorem literal_any (k n : Int) (s : ByteArray) (w : World) (h : vr k n s = true) (hn : -9223372036854775808 ≤ n ∧ n ≤ 9223372036854775807) (hE : EnvQ w) :
    Calls Tryz.prog 33 #[vlV k n s] w fun e w' => e = .returned (.string (mk (src (litP k n s.data.toList)))) ∧ Ext w w' := by
  rcases vr_cases h with ⟨rfl, rfl, hz⟩ | ⟨rfl, hn0, hz⟩ | ⟨rfl, rfl, hz⟩ | ⟨rfl, hn1, hz⟩ | ⟨rfl, hn1, hz⟩
  · obtain rfl := bs_empty hz
    clear h hn hE hz
    go_enter Tryz.func33, Tryz.ntmps33
    go_wp2_with fail
    go_ret
    exact ⟨rfl, below_alloc1 _ _⟩
  · obtain rfl := bs_empty hz
    have hnr : -9223372036854775807 ≤ n ∧ n ≤ 9223372036854775807 := by omega
    have hlen := (Num.len_txtAbs n.natAbs (by omega)).2
    by_cases hneg : n < 0
    · have HP := Lib.hid (fun w => print_any n w hnr)
      have HV : Hid (mk (src (litP 1 n [])) = ⟨#[40]⟩ ++ ⟨(Num.txt n).toArray⟩ ++ ⟨#[41]⟩) := Lib.hid (by
        show _ = mk [40] ++ mk (Num.txt n) ++ mk [41]
        rw [mk_both, mk_both]
        simp [litP, hneg, src, signP, numP, Num.txt])
      obtain ⟨T, hT⟩ : ∃ T : ByteArray, (⟨(Num.txt n).toArray⟩ : ByteArray) = T := ⟨_, rfl⟩
      have hTs : (T.size : Int) ≤ 100 := by
        rw [← hT]
        show ((mk (Num.txt n)).size : Int) ≤ 100
        rw [mk_size, Num.txt, if_pos hneg, List.length_cons]
        omega
      rw [hT] at HP HV
      have HE := Lib.hid hE
      clear h hn hE hz hn0 hnr hlen hT
      go_enter Tryz.func33, Tryz.ntmps33
      go_wp2_with fail
      refine (HP.out _).mono ?_
      rintro e w1 ⟨rfl, hE1⟩
      have HE1 := Lib.hid (ext_dig hE1)
      clear hE1
      go_wp2_with fail
      go_ret
      exact ⟨by rw [HV.out]; rfl, HE1.out⟩
    · have hneg' : 0 ≤ n := by omega
      have HP := Lib.hid (fun w => shnum_any n w hnr)
      have HV : Hid (mk (src (litP 1 n [])) = ⟨(Num.txt n).toArray⟩) := Lib.hid (by
        show _ = mk (Num.txt n)
        simp [litP, hneg, src, numP, Num.txt])
      clear h hn hE hz hn0 hnr hlen hneg
      go_enter Tryz.func33, Tryz.ntmps33
      go_wp2_with fail
      refine (HP.out _).mono ?_
      rintro e w1 ⟨rfl, hE1⟩
      have HE1 := Lib.hid (ext_dig hE1)
      clear hE1
      go_wp2_with fail
      go_ret
      exact ⟨by rw [HV.out]; rfl, HE1.out⟩
  · have HP := Lib.hid (fun w (hE : EnvQ w) => repl_any s w (by omega) hE.2.max)
    have HE := Lib.hid (hE.ext (below_alloc1 w (.cells #[.int .i64 2, .int .i64 0, .string s] 26)))
    have HV : Hid (mk (src (litP 2 0 s.data.toList)) = ⟨#[34]⟩ ++ mk (escL s.data.toList) ++ ⟨#[34]⟩) := Lib.hid (by
      show _ = mk [34] ++ mk (escL s.data.toList) ++ mk [34]
      rw [mk_both, mk_both]
      simp [litP, src, textP])
    obtain ⟨T, hT⟩ : ∃ T : ByteArray, mk (escL s.data.toList) = T := ⟨_, rfl⟩
    have hTs : (T.size : Int) ≤ 200 := by
      rw [← hT, mk_size]
      have := esc_size s.data.toList
      have h2 : s.data.toList.length = s.size := by simp
      omega
    rw [hT] at HP HV
    clear h hn hE hz hT
    go_enter Tryz.func33, Tryz.ntmps33
    go_wp2_with fail
    refine (HP.out _ HE.out).mono ?_
    rintro e w1 ⟨rfl, hE1⟩
    have HE1 := Lib.hid (ext_dig hE1)
    clear hE1
    go_wp2_with fail
    go_ret
    exact ⟨by rw [HV.out]; rfl, HE1.out⟩
  · obtain rfl := bs_empty hz
    have HP := Lib.hid (fun w => shbool_any n w hn1)
    have HV : Hid (mk (src (litP 3 n [])) = mk (if n = 1 then [84, 82, 85, 69] else [70, 65, 76, 83, 69])) := Lib.hid (by simp [litP, src, wordP])
    obtain ⟨T, hT⟩ : ∃ T : ByteArray, mk (if n = 1 then [84, 82, 85, 69] else [70, 65, 76, 83, 69]) = T := ⟨_, rfl⟩
    rw [hT] at HP HV
    clear h hn hE hz hn1 hT
    go_enter Tryz.func33, Tryz.ntmps33
    go_wp2_with fail
    refine (HP.out _).mono ?_
    rintro e w1 ⟨rfl, hE1⟩
    have HE1 := Lib.hid (ext_dig hE1)
    clear hE1
    go_wp2_with fail
    go_ret
    exact ⟨by rw [HV.out]; rfl, HE1.out⟩
  · obtain rfl := bs_empty hz
    have HP := Lib.hid (fun w (ht : Tab w) => sherr_any n w hn1 ht)
    have HT := Lib.hid (hE.1.alloc (.cells #[.int .i64 4, .int .i64 n, .string ⟨#[]⟩] 26))
    have HV : Hid (mk (src (litP 4 n [])) = mk (errLit.getD (n.toNat - 1) [])) := Lib.hid (by simp [litP, src, errP])
    clear h hn hE hz hn1
    go_enter Tryz.func33, Tryz.ntmps33
    go_wp2_with fail
    refine (HP.out _ HT.out).mono ?_
    rintro e w1 ⟨rfl, hE1⟩
    have HE1 := Lib.hid (ext_dig hE1)
    clear hE1
    go_wp2_with fail
    go_ret
    exact ⟨by rw [HV.out]; rfl, HE1.out⟩
/-! ### How long a formula's text may be -/
theorem src_len_app (a b : List Pc) : (src (a ++ b)).length = (src a).length + (src b).length := by rw [src_app, List.length_append]
theorem src_len_cons (q : Pc) (b : List Pc) : (src (q :: b)).length = q.2.2.length + (src b).length := by rw [src_cons, List.length_append]
theorem brk_len (b : Bool) (l : List Pc) : (src (brk b l)).length ≤ (src l).length + 2 := by
  cases b
  · exact Nat.le_add_right _ _
  · simp only [brk, if_true, src_len_cons, src_len_app, src_one, signP]
    simp
    omega
theorem ref_len {r : Rf} (p : Int) (h : insV r.s r.c r.r = true) : (refL r p).length ≤ 8 := by
  obtain ⟨⟨h1, h2, h3⟩, -⟩ := ins_nat h
  have := body_len r.x r.y (c := r.c.toNat) (r := r.r.toNat) h3
  unfold refL
  split
  · omega
  · simp [fullL]; omega
theorem lit_len {k n : Int} {s : ByteArray} (h : vr k n s = true) (hn : -9223372036854775808 ≤ n ∧ n ≤ 9223372036854775807) : (src (litP k n s.data.toList)).length ≤ 150 := by
  have hsz : s.data.toList.length = s.size := by simp
  unfold litP
  rcases vr_cases h with ⟨rfl, -⟩ | ⟨rfl, hn0, hz⟩ | ⟨rfl, -, hz⟩ | ⟨rfl, hn1, hz⟩ | ⟨rfl, hn1, hz⟩
  · rw [if_pos rfl]; simp [src, wordP, signP]
  · rw [if_neg (by decide), if_neg (by decide), if_pos rfl]
    have hlen := (Num.len_txtAbs n.natAbs (by omega)).2
    split
    · simp [src, signP, numP]; omega
    · simp [src, numP]; omega
  · rw [if_neg (by decide), if_pos rfl]
    have := esc_size s.data.toList
    simp [src, textP]
    omega
  · rw [if_neg (by decide), if_neg (by decide), if_neg (by decide), if_pos rfl]
    simp only [src, wordP, List.flatMap_cons, List.flatMap_nil, List.append_nil]
    split <;> simp
  · rw [if_neg (by decide), if_neg (by decide), if_neg (by decide), if_neg (by decide)]
    have hall : ∀ k, k < 7 → (errLit.getD k []).length ≤ 7 := by decide
    have := hall (n.toNat - 1) (by omega)
    simp [src, errP]
    simp at this
    omega
theorem fn_len' : ∀ k, k < 54 → (fnN k).length ≤ 20 := fun k hk => by
  have := (fn_facts k hk).2.1
  unfold fnN
  rw [List.length_take]
  omega
theorem op_len' (op : Int) : (opL op).length ≤ 2 := by
  have hall : ∀ l ∈ opsLit, l.length ≤ 2 := by decide
  unfold opL
  rw [List.getD_eq_getElem?_getD]
  cases h : opsLit[op.toNat - 1]? with
  | none => simp
  | some l => exact hall l (List.mem_of_getElem? h)
theorem sh_len (p : Int) {t : Tr} (h : GT t) : ∀ v, (shT p v t).length + 10 ≤ 300 * sizeT t := by
  induction h with
  | lit k n s h h0 hn hs =>
    intro v
    have := lit_len (s := s) h ⟨by omega, hn⟩
    unfold shT
    rw [pcs_lit, sizeT, sizeL]
    omega
  | one r h =>
    intro v
    have := ref_len p h
    unfold shT
    rw [pcs_one, sizeT, sizeL, src_one]
    simp only [wordP]
    omega
  | area a b h h' hs =>
    intro v
    have h1 := ref_len p h
    have h2 := ref_len b.s h'
    unfold shT
    rw [pcs_area, sizeT, sizeL]
    simp only [src_len_cons, src_one, wordP, signP, List.length_cons, List.length_nil]
    omega
  | word l h =>
    intro v
    unfold shT
    rw [pcs_word, wordT, sizeT, sizeL, src_one]
    unfold nameF at h
    simp only [Bool.and_eq_true, decide_eq_true_eq] at h
    have := h.1.1.1.1.1.1.2
    simp only [wordP]
    omega
  | neg t h ih =>
    intro v
    have h1 := ih 4
    have h2 := brk_len (decide (4 < v)) (signP [45] :: pcs p 4 t)
    unfold shT at h1 ⊢
    rw [pcs_neg, sizeT, sizeL, sizeL]
    have h3 : (src (signP [45] :: pcs p 4 t)).length = 1 + (src (pcs p 4 t)).length := by rw [src_len_cons]; rfl
    omega
  | pct t h ih =>
    intro v
    have h1 := ih 5
    unfold shT at h1 ⊢
    rw [pcs_pct, sizeT, sizeL, sizeL, src_len_app, src_one]
    simp only [signP, List.length_cons, List.length_nil]
    omega
  | bin op t u h ht hu iht ihu =>
    intro v
    have h1 := iht (lvlOf op)
    have h2 := ihu (lvlOf op + 1)
    have h3 := brk_len (decide (lvlOf op < v)) (pcs p (lvlOf op) t ++ signP (opL op) :: pcs p (lvlOf op + 1) u)
    have h4 := op_len' op
    unfold shT at h1 h2 ⊢
    rw [pcs_bin, sizeT, sizeL, sizeL, sizeL]
    have h5 : (src (pcs p (lvlOf op) t ++ signP (opL op) :: pcs p (lvlOf op + 1) u)).length = (src (pcs p (lvlOf op) t)).length + ((opL op).length + (src (pcs p (lvlOf op + 1) u)).length) := by rw [src_len_app, src_len_cons]; rfl
    omega
  | call f ts h ht ih =>
    intro v
    have hN : (nameOf f).length ≤ 20 := by
      unfold nameOf
      split
      · exact fn_len' _ (by omega)
      · simp
    have hall : ∀ l : List Tr, (∀ t ∈ l, t ∈ ts) → (src ((l.map (pcs p 0)).flatMap (fun y => signP [44] :: y))).length + 9 * l.length ≤ 300 * sizeL l := by
      intro l
      induction l with
      | nil => intro _; simp [src, sizeL]
      | cons t l ihl =>
        intro hm
        have h1 := ihl (fun t ht => hm t (by simp [ht]))
        have h2 := ih t (hm t (by simp)) 0
        unfold shT at h2
        simp only [List.map_cons, List.flatMap_cons, List.cons_append, src_len_cons, src_len_app, signP, sizeL, List.length_cons, List.length_nil] at h1 ⊢
        omega
    have hj : (src (joinP (ts.map (pcs p 0)))).length ≤ 300 * sizeL ts := by
      cases ts with
      | nil => simp [joinP, src]
      | cons t l =>
        have h1 := hall l (fun t ht => by simp [ht])
        have h2 := ih t (by simp) 0
        unfold shT at h2
        simp only [List.map_cons, joinP, src_len_app, sizeL]
        omega
    unfold shT
    rw [pcs_call, sizeT]
    simp only [src_len_cons, src_len_app, src_one, wordP, signP, List.length_cons, List.length_nil]
    omega
/-! ### Joined texts -/
theorem join_src (ls : List (List Pc)) : Lib.join (ls.map src) [44] = src (joinP ls) := by
  cases ls with
  | nil => rfl
  | cons x l =>
    unfold Lib.join
    induction l generalizing x with
    | nil => simp [joinP, List.intercalate, src]
    | cons y l ih =>
      have h1 := ih y
      simp only [List.map_cons] at h1 ⊢
      have h2 : [44].intercalate (src x :: src y :: l.map src) = src x ++ [44] ++ ([44].intercalate (src y :: l.map src)) := by simp [List.intercalate, List.intersperse]
      rw [h2, h1]
      simp [joinP, src, signP]
/-! ### How much an operator binds -/
set_option maxRecDepth 100000 in
set_option maxHeartbeats 4000000 in
theorem level_any (op : Int) (w : World) (h : 1 ≤ op ∧ op ≤ 11) : Calls Tryz.prog 37 #[.int .i64 op] w fun e w' => e = .returned (.int .i64 (lvlOf op : Int)) ∧ w = w' := by
  unfold lvlOf
  by_cases h6 : 6 ≤ op
  · rw [if_pos h6]
    go_enter Tryz.func37, Tryz.ntmps37
    go_wp2_with fail
    go_ret
    exact ⟨rfl, rfl⟩
  rw [if_neg h6]
  by_cases h5 : op = 5
  · subst h5
    go_enter Tryz.func37, Tryz.ntmps37
    go_wp2_with fail
    go_ret
    exact ⟨rfl, rfl⟩
  rw [if_neg h5]
  have q5 : (op == 5) = false := by simpa using h5
  by_cases h2 : op ≤ 2
  · rw [if_pos h2]
    have h6' : op < 6 := by omega
    go_enter Tryz.func37, Tryz.ntmps37
    go_wp2_with fail
    go_ret
    exact ⟨rfl, rfl⟩
  · rw [if_neg h2]
    have h6' : op < 6 := by omega
    have h2' : 2 < op := by omega
    go_enter Tryz.func37, Tryz.ntmps37
    go_wp2_with fail
    go_ret
    exact ⟨rfl, rfl⟩
/-- A reference's text. -/
theorem pref_any (r : Rf) (p : Int) (w : World) (h : insV r.s r.c r.r = true) : Calls Tryz.prog 34 #[r.val, .int .i64 p] w fun e w' => e = .returned (.string (mk (refL r p))) ∧ Ext w w' := by
  obtain ⟨⟨h1, h2, h3⟩, h4, h5, h6⟩ := ins_nat h
  have hc := print_core r.s.toNat r.c.toNat r.r.toNat p r.x r.y w h1 h2 h3 _ rfl
  rw [h4, h5, h6] at hc
  exact hc
end Go.Proofs.YtbnebiobahajjaaGreatDoor
