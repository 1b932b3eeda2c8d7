/-
  ListsSums: walk. Conditions: the arguments' own.
-/
import Derived.Test.YtpnnjmckjipacaaListsG
import Derived.Deep.DeepCutAuto
namespace Go.Proofs.Ytpnnjmckjipacaa.listsSums
open Go.RowKit Num
set_option linter.unusedVariables false
set_option linter.unusedSimpArgs false

/-- The block of the counts of kinds. -/
def KB (W : World) (g : Nat) (c : Nat → Int) : Prop := g < W.heap.size ∧ ∀ k, k < 5 → W.cell? ⟨g, k, none⟩ = some (.int .i64 (c k)) ∧ W.frozen? ⟨g, k, none⟩ = false
theorem KB.step {W W' : World} {g : Nat} {c : Nat → Int} (h : KB W g c) (hE : Ext W W') : KB W' g c :=
  ⟨Nat.lt_of_lt_of_le h.1 hE.size, fun k hk => ⟨ext_cell h.1 (h.2 k hk).1 _ hE, ext_frozen h.1 (h.2 k hk).2 _ hE⟩⟩
theorem KB.put {W : World} {g : Nat} {c : Nat → Int} (h : KB W g c) {k : Nat} (hk : k < 5) (x : Int) : KB (W.setCell ⟨g, k, none⟩ (.int .i64 x)) g fun j => if j = k then x else c j := by
  refine ⟨by simpa using h.1, fun j hj => ⟨?_, by simpa using (h.2 j hj).2⟩⟩
  show _ = some (Value.int .i64 (if j = k then x else c j))
  by_cases hjk : j = k
  · subst hjk
    rw [if_pos rfl]
    exact World.cell?_setCell_same _ _ _ (h.2 j hj).1
  · rw [if_neg hjk, World.cell?_setCell_other _ _ _ _ (fun e => hjk (by injection e with _ e; exact e.symm))]
    exact (h.2 j hj).1

def Rel (L : List Vl) (i : Nat) (s3 s4 s5 s6 s7 s8 s9 : Value) : Prop :=
  foldEnd (sumO (nums (L.take i))) s3 s5 ∧ foldEnd (prodO (nums (L.take i))) s4 s6 ∧ s7 = .int .i64 ((nums (L.take i)).length : Nat) ∧ s8 = .int .i64 (extV false (nums (L.take i))) ∧ s9 = .int .i64 (extV true (nums (L.take i)))
def cK (L : List Vl) (i : Nat) (k : Nat) : Int := (cnt (isKind (k : Int) true) (L.take i) : Nat)

theorem mul_end (x y : Int) (hx : Mant x) (hy : Mant y) : ∃ V B, (∀ w, Calls Try.prog 22 #[.int .i64 x, .int .i64 y] w fun e w' => e = .returned (.tuple #[.int .i64 V, .bool B]) ∧ Ext w w') ∧
    ((B = true ∧ mulO (some x) y = some V ∧ Mant V) ∨ (B = false ∧ mulO (some x) y = none)) := by
  refine ⟨_, _, fun w => mul_any x y w hx hy, ?_⟩
  unfold mulO
  simp only [Option.bind_some]
  by_cases h : mulOk (x.natAbs * y.natAbs) 1000000 = true
  · exact .inl ⟨h, by rw [if_pos h], mulV_bd _ _ _⟩
  · exact .inr ⟨by simpa using h, by rw [if_neg h]⟩
theorem cK_succ {L : List Vl} {i k : Nat} {v : Vl} (h : L.take (i + 1) = L.take i ++ [v]) (hk : v.k = (k : Int)) : cK L (i + 1) = fun j => if j = k then cK L i k + 1 else cK L i j := by
  funext j
  unfold cK
  rw [h, cnt_snoc]
  have e : isKind (j : Int) true v = decide (j = k) := by
    unfold isKind
    rw [hk, Bool.eq_iff_iff]
    simp
    omega
  rw [e]
  by_cases hjk : j = k
  · subst hjk; simp
  · simp [hjk]
theorem prod_snoc {P : List Int} (z : Int) (h : P ≠ []) : prodO (P ++ [z]) = mulO (prodO P) z := by
  cases P with
  | nil => exact absurd rfl h
  | cons y r => simp [prodO, List.foldl_append]
theorem ext_snoc (g : Bool) {P : List Int} (z : Int) (h : P ≠ []) : extV g (P ++ [z]) = ext2 g (extV g P) z := by
  cases P with
  | nil => exact absurd rfl h
  | cons y r => simp [extV, List.foldl_append, better_ext]
theorem prodO_bd (P : List Int) (hm : Mants P) : ∀ s, prodO P = some s → Mant s := by
  cases P with
  | nil => intro s h; cases h; unfold Mant; omega
  | cons z r =>
    have aux : ∀ (l : List Int) (o : Option Int), (∀ s, o = some s → Mant s) → ∀ s, l.foldl mulO o = some s → Mant s := by
      intro l
      induction l with
      | nil => intro o h s hs; exact h s hs
      | cons y l ih =>
        intro o h s hs
        refine ih _ (fun t ht => ?_) s hs
        cases o with
        | none => cases ht
        | some q =>
          unfold mulO at ht
          simp only [Option.bind_some] at ht
          split at ht
          · cases ht; exact mulV_bd _ _ _
          · cases ht
    exact aux r (some z) (fun s hs => by cases hs; exact hm z (by simp))

set_option maxRecDepth 100000 in
set_option maxHeartbeats 1600000 in
theorem walk (a : Option Addr) (len cap : Nat) (L : List Vl) (w : World) (hL : VArg w a len cap L) :
    Calls Try.prog 8 #[.slice a len cap] w fun e w' => e = .returned (.bool true) ∧ Below w.heap.size w w' := by
  go_enter Try.func8, Try.ntmps8
  go_wp2_with fail
  refine (fit_any _).mono ?_
  rintro e w1 ⟨rfl, hb1⟩
  go_wp2_with fail
  refine (light_any a len cap L _ ⟨hL.1.below hb1, hL.2⟩).mono ?_
  rintro e w2 ⟨u, rfl, hb2', hlA⟩
  have hb2 := hb1.th hb2'
  have hv2 := hL.1.below hb2
  clear hb1 hb2'
  cases u
  · go_wp2
    go_ret
    exact ⟨rfl, hb2⟩
  have hlA := hlA (by trivial)
  have hmL := light_mants hL hlA
  have h100 := hlA.1
  have hlen := hL.1.1
  have HML := Lib.hid hmL
  have HLA := Lib.hid hlA
  clear hlA hmL
  go_wp2_with fail
  go_loopw [22, 3, 4, 5, 6, 7, 8, 9] (fun si s3 s4 s5 s6 s7 s8 s9 wr => ∃ (i : Nat), i ≤ len ∧ si = .int .i64 (i : Int) ∧ Rel L i s3 s4 s5 s6 s7 s8 s9 ∧ KB wr w2.heap.size (cK L i) ∧ Ext w2 wr) (fun si _ _ _ _ _ _ _ _ => len - (intOf si).toNat)
  case atStart =>
    refine ⟨0, by omega, rfl, ⟨.inl ⟨0, rfl, by unfold Mant; omega, rfl, rfl⟩, .inl ⟨0, rfl, by unfold Mant; omega, rfl, rfl⟩, rfl, rfl, rfl⟩, ⟨by simp, fun k hk => ?_⟩, below_alloc _ _⟩
    have hk' : k = 0 ∨ k = 1 ∨ k = 2 ∨ k = 3 ∨ k = 4 := by omega
    rcases hk' with rfl | rfl | rfl | rfl | rfl <;> simp [cK, cnt]
  case round =>
    obtain ⟨i, hi, rfl, ⟨hs, hp, rfl, rfl, rfl⟩, hKB, hbr⟩ := hrel
    have hbw := hb2.th hbr
    by_cases hlt : i < len
    · obtain ⟨ba, oa, rfl, hBa, hca⟩ := (hv2.below hbr).2 (by omega)
      obtain ⟨x0, x1, x2⟩ := hca i (by omega)
      have hvr := HLA.out.2 i hlt
      obtain ⟨v, hv⟩ : ∃ v, L.getD i v0 = v := ⟨_, rfl⟩
      rw [hv] at x0 x1 x2 hvr
      have hsn := take_vl (L := L) (k := i) (by omega)
      rw [hv] at hsn
      have hvK : 0 ≤ v.k ∧ v.k < 5 := by
        unfold vr at hvr
        simp only [decide_eq_true_eq] at hvr
        omega
      obtain ⟨k, hk⟩ : ∃ k : Nat, v.k = k := ⟨v.k.toNat, by omega⟩
      have hk5 : k < 5 := by omega
      obtain ⟨n, hn⟩ : ∃ n, v.n = n := ⟨_, rfl⟩
      obtain ⟨st, hst⟩ : ∃ s, v.s = s := ⟨_, rfl⟩
      rw [hk] at x0
      rw [hn] at x1
      rw [hst] at x2
      have HS := Lib.hid hs
      have HP := Lib.hid hp
      have HK := Lib.hid hKB
      have HK' := Lib.hid hk
      have HN := Lib.hid hn
      have HSN := Lib.hid hsn
      have HVR := Lib.hid hvr
      obtain ⟨g0, gk⟩ := hKB
      obtain ⟨gk1, gk2⟩ := gk k hk5
      have hcb : 0 ≤ cK L i k ∧ cK L i k ≤ 100 := by
        have := cnt_le (isKind (k : Int) true) (L.take i)
        rw [List.length_take] at this
        unfold cK; omega
      obtain ⟨c, hc⟩ : ∃ c, cK L i k = c := ⟨_, rfl⟩
      rw [hc] at gk1 hcb
      have HC := Lib.hid hc
      have gne : w2.heap.size ≠ wr.heap.size := Nat.ne_of_lt g0
      have hk0 : (0 : Int) ≤ (k : Int) := by omega
      have hk55 : (k : Int) < 5 := by omega
      clear hs hp hca hv hk hn hst hsn hvr gk hc hvK
      go_upto_region 12 with (fail)
      have hKBn := (HK.out.put hk5 (c + 1)).step (below_alloc (wr.setCell ⟨w2.heap.size, k, none⟩ (.int .i64 (c + 1))) (.cells #[.int .i64 (k : Int), .int .i64 n, .string st] 26))
      rw [← HC.out, ← cK_succ HSN.out HK'.out] at hKBn
      have hX1 : XB ((wr.setCell ⟨w2.heap.size, k, none⟩ (.int .i64 (c + 1))).alloc (.cells #[.int .i64 (k : Int), .int .i64 n, .string st] 26)) wr.heap.size ⟨k, n, st⟩ := by
        have := XB.new (wr.setCell ⟨w2.heap.size, k, none⟩ (.int .i64 (c + 1))) ⟨k, n, st⟩
        simpa using this
      have hE1 : Below w2.heap.size w2 ((wr.setCell ⟨w2.heap.size, k, none⟩ (.int .i64 (c + 1))).alloc (.cells #[.int .i64 (k : Int), .int .i64 n, .string st] 26)) :=
        (Below.setCell hbr (p := ⟨w2.heap.size, k, none⟩) (Nat.le_refl _) _).al _
      rw [← HC.out] at hX1 hE1 ⊢
      obtain ⟨W1, hW1⟩ : ∃ W1, ((wr.setCell ⟨w2.heap.size, k, none⟩ (.int .i64 (cK L i k + 1))).alloc (.cells #[.int .i64 (k : Int), .int .i64 n, .string st] 26)) = W1 := ⟨_, rfl⟩
      rw [hW1] at hKBn hX1 hE1 ⊢
      have HKB := Lib.hid hKBn
      have HE1 := Lib.hid hE1
      obtain ⟨b0, b1, b2, b3⟩ := hX1
      simp only at b1 b2 b3
      have c0 := ext_cell b0 b1
      have c1 := ext_cell b0 b2
      have c2 := ext_cell b0 b3
      clear hW1 gk1 gk2 gne hcb hKBn hE1 x0 x1 x2 hBa g0 HK
      have hone : nums (L.take (i + 1)) = nums (L.take i) ++ if v.k == 1 then [v.n] else [] := by rw [HSN.out, nums_snoc]
      obtain ⟨P, hP⟩ : ∃ P, nums (L.take i) = P := ⟨_, rfl⟩
      obtain ⟨P', hP'⟩ : ∃ P', nums (L.take (i + 1)) = P' := ⟨_, rfl⟩
      have hmP' : Mants P' := by
        rw [← hP']
        intro z hz
        refine HML.out z ?_
        unfold nums at hz ⊢
        rw [List.mem_map] at hz ⊢
        obtain ⟨q, hq, rfl⟩ := hz
        rw [List.mem_filter] at hq
        exact ⟨q, by rw [List.mem_filter]; exact ⟨List.mem_of_mem_take hq.1, hq.2⟩, rfl⟩
      have hPl : P.length ≤ 100 := by have := nums_le (L.take i); rw [List.length_take, hP] at this; omega
      rw [hP, hP', HK'.out, HN.out] at hone
      have HR : Hid (∀ s3 s4 s5 s6 s7 s8 s9, foldEnd (sumO P') s3 s5 → foldEnd (prodO P') s4 s6 → s7 = .int .i64 (P'.length : Nat) → s8 = .int .i64 (extV false P') → s9 = .int .i64 (extV true P') → Rel L (i + 1) s3 s4 s5 s6 s7 s8 s9) := by
        show ∀ _ _ _ _ _ _ _, _
        intro s3 s4 s5 s6 s7 s8 s9 h1 h2 h3 h4 h5
        unfold Rel
        rw [hP']
        exact ⟨h1, h2, h3, h4, h5⟩
      have hs := HS.out
      have hp := HP.out
      rw [hP] at hs hp ⊢
      have HS2 := Lib.hid hs
      have HP2 := Lib.hid hp
      clear hP hP' hs hp HS HP
      by_cases hk1 : k = 1
      · have hone' : P' = P ++ [n] := by rw [hone, if_pos (by simp [hk1])]
        subst hone'
        have tk0 : ((k : Int) != 1) = false := by simp [hk1]
        clear hk1
        have hmn : Mant n := hmP' n (by simp)
        have HMP := Lib.hid hmP'
        obtain ⟨n1, n2⟩ := hmn
        clear hone hmP'
        go_upto_if 35 with (fail)
        go_cut [3, 5] (fun s3 s5 wc => foldEnd (sumO (P ++ [n])) s3 s5 ∧ Ext W1 wc)
        case first =>
          rcases HS2.out with ⟨s, hs, ⟨hs1, hs2⟩, rfl, rfl⟩ | ⟨hs, c, rfl, rfl⟩
          · have hst : sumO (P ++ [n]) = addO (some s) n := by rw [sumO_snoc, hs]
            have HST := Lib.hid hst
            clear hs hst
            by_cases hf : -9223372036854775807 ≤ s + n ∧ s + n ≤ 9223372036854775807
            · have hst2 : Hid (sumO (P ++ [n]) = some (s + n)) := by show _ = _; rw [HST.out]; exact if_pos (decide_eq_true hf)
              have HF := Lib.hid hf
              clear hf
              go_wp2_with fail
              refine (add_yes s n _ ⟨hs1, hs2⟩ ⟨n1, n2⟩ HF.out).mono ?_
              rintro e w' ⟨rfl, rfl⟩
              go_wp2_with fail
              go_meet
              case rel => exact ⟨.inl ⟨_, hst2.out, HF.out, rfl, rfl⟩, Ext.refl _⟩
            · have hst2 : Hid (sumO (P ++ [n]) = none) := by show _ = _; rw [HST.out]; exact if_neg (by unfold fitI; simpa using hf)
              have HF := Lib.hid hf
              clear hf
              go_wp2_with fail
              refine (add_no s n _ ⟨hs1, hs2⟩ ⟨n1, n2⟩ HF.out).mono ?_
              rintro e w' ⟨c, rfl, rfl⟩
              go_wp2_with fail
              go_meet
              case rel => exact ⟨.inr ⟨hst2.out, _, rfl, rfl⟩, Ext.refl _⟩
          · have hst2 : Hid (sumO (P ++ [n]) = none) := by show _ = _; rw [sumO_snoc, hs]; rfl
            clear hs
            go_wp2_with fail
            go_meet
            case rel => exact ⟨.inr ⟨hst2.out, _, rfl, rfl⟩, Ext.refl _⟩
        case rest =>
          obtain ⟨hs', hE'⟩ := hcut
          have HS3 := Lib.hid hs'
          clear hs' HS2
          have d1 := ext_cell (Nat.lt_of_lt_of_le b0 hE'.size) (c1 _ hE')
          have d0 := d1 _ (Ext.refl _)
          go_upto_if 44 with (fail)
          go_cut [4, 6, 8, 9] (fun s4 s6 s8 s9 wd => foldEnd (prodO (P ++ [n])) s4 s6 ∧ (∃ l m : Int, s8 = .int .i64 l ∧ s9 = .int .i64 m ∧ (if n < l then n else l) = extV false (P ++ [n]) ∧ (if m < n then n else m) = extV true (P ++ [n])) ∧ Ext W1 wd)
          case first =>
            by_cases hP0 : P = []
            · have tn : ((P.length : Int) == 0) = true := by simp [hP0]
              have hpr : Hid (foldEnd (prodO (P ++ [n])) (.int .i64 n) u6) := by
                rcases HP2.out with ⟨s, hs, hsm, -, rfl⟩ | ⟨hs, c, -, rfl⟩
                · exact .inl ⟨n, by rw [hP0]; rfl, ⟨n1, n2⟩, rfl, rfl⟩
                · rw [hP0] at hs; cases hs
              have he1 : Hid ((if n < n then n else n) = extV false (P ++ [n])) := by show _ = _; rw [hP0]; simp [extV, better]
              have he2 : Hid ((if n < n then n else n) = extV true (P ++ [n])) := by show _ = _; rw [hP0]; simp [extV, better]
              clear hP0
              go_wp2_with fail
              refine region_any (by kernel_rfl) (by kernel_rfl) rfl (fun K hK => ?_)
              repeat (first | (refine seqr_skip (by rfl) (fun ρ => by rfl) ?_; (try simp only [Act.put, List.setIfInBounds_toArray, List.set_cons_zero, List.set_cons_succ])) | (refine seqr_pure (v := ?_) (by rfl) (fun ρ => by rfl) (fun ρ w hE hF => ?_) ?_; rotate_left 1; (· ((try simp only [fill, Act.put, List.setIfInBounds_toArray, List.set_cons_zero, List.set_cons_succ]); go_simp; try with_reducible rfl)); (try simp only [Act.put, List.setIfInBounds_toArray, List.set_cons_zero, List.set_cons_succ])) | (refine seqr_call0 (v := ?_) (f := ?_) (args := ?_) (by rfl) (fun ρ => by rfl) (fun ρ w => ?_) (fun w hE => ?_) ?_; rotate_left 3; (· ((try simp only [fill, Act.put, List.setIfInBounds_toArray, List.set_cons_zero, List.set_cons_succ]); go_simp; constructor <;> with_reducible rfl)); (· (with_reducible exact CallE.call (by assumption) hE)); (try simp only [Act.put, List.setIfInBounds_toArray, List.set_cons_zero, List.set_cons_succ])))
              refine seqr_done (fun ρ wN hEN hFN => ?_); (try simp only [fill, Act.put, List.setIfInBounds_toArray, List.set_cons_zero, List.set_cons_succ]); refine (show K _ _ from hK.out _ _ ?_); clear hK K
              go_wp2_with fail
              go_meet
              case rel => exact ⟨hpr.out, ⟨n, n, rfl, rfl, he1.out, he2.out⟩, hE'.trans hEN⟩
            · have tn : ((P.length : Int) == 0) = false := by
                have : P.length ≠ 0 := fun h => hP0 (List.length_eq_zero_iff.1 h)
                simp; omega
              have hpr : Hid (prodO (P ++ [n]) = mulO (prodO P) n) := prod_snoc n hP0
              have he1 : Hid ((if n < extV false P then n else extV false P) = extV false (P ++ [n])) := by show _ = _; rw [ext_snoc false n hP0]; unfold ext2; simp only [Bool.false_eq_true, if_false]; split <;> omega
              have he2 : Hid ((if extV true P < n then n else extV true P) = extV true (P ++ [n])) := by show _ = _; rw [ext_snoc true n hP0]; unfold ext2; simp only [if_true]; split <;> omega
              clear hP0
              rcases HP2.out with ⟨s, hs, hsm, rfl, rfl⟩ | ⟨hs, c, rfl, rfl⟩
              · obtain ⟨V, Bo, hcall, hVB⟩ := mul_end s n hsm ⟨n1, n2⟩
                have e1 : CallE Try.prog wc 22 _ _ := fun w _ => hcall w
                have hfe : Hid (foldEnd (prodO (P ++ [n])) (.int .i64 V) (.bool Bo)) := by
                  show foldEnd _ _ _
                  rw [hpr.out, hs]
                  rcases hVB with ⟨rfl, hm, hVm⟩ | ⟨rfl, hm⟩
                  · exact .inl ⟨V, hm, hVm, rfl, rfl⟩
                  · exact .inr ⟨hm, V, rfl, rfl⟩
                have hcc := Lib.hid hcall
                clear hs hVB hcall hsm
                go_wp2_with fail
                refine (hcc.out _).mono ?_
                rintro e w' ⟨rfl, hEx⟩
                go_wp2_with fail
                go_meet
                case rel => exact ⟨hfe.out, ⟨_, _, rfl, rfl, he1.out, he2.out⟩, hE'.trans hEx⟩
              · have hfe : Hid (foldEnd (prodO (P ++ [n])) (.int .i64 c) (.bool false)) := by
                  show foldEnd _ _ _
                  rw [hpr.out, hs]
                  exact .inr ⟨rfl, c, rfl, rfl⟩
                clear hs
                go_wp2_with fail
                go_meet
                case rel => exact ⟨hfe.out, ⟨_, _, rfl, rfl, he1.out, he2.out⟩, hE'⟩
          case rest =>
            obtain ⟨hp', ⟨l, m, rfl, rfl, he1, he2⟩, hE2⟩ := hcut
            have HP3 := Lib.hid hp'
            have HM1 := Lib.hid he1
            have HM2 := Lib.hid he2
            clear hp' HP2 he1 he2 hE' d1 d0
            have d1 := ext_cell (Nat.lt_of_lt_of_le b0 hE2.size) (c1 _ hE2)
            have hl : Hid ((P.length : Int) + 1 = ((P ++ [n]).length : Nat)) := by show _ = _; simp
            go_wp2_with fail
            refine region_any (by kernel_rfl) (by kernel_rfl) rfl (fun K hK => ?_)
            repeat (first | (refine seqr_skip (by rfl) (fun ρ => by rfl) ?_; (try simp only [Act.put, List.setIfInBounds_toArray, List.set_cons_zero, List.set_cons_succ])) | (refine seqr_pure (v := ?_) (by rfl) (fun ρ => by rfl) (fun ρ w hE hF => ?_) ?_; rotate_left 1; (· ((try simp only [fill, Act.put, List.setIfInBounds_toArray, List.set_cons_zero, List.set_cons_succ]); go_simp; try with_reducible rfl)); (try simp only [Act.put, List.setIfInBounds_toArray, List.set_cons_zero, List.set_cons_succ])) | (refine seqr_call0 (v := ?_) (f := ?_) (args := ?_) (by rfl) (fun ρ => by rfl) (fun ρ w => ?_) (fun w hE => ?_) ?_; rotate_left 3; (· ((try simp only [fill, Act.put, List.setIfInBounds_toArray, List.set_cons_zero, List.set_cons_succ]); go_simp; constructor <;> with_reducible rfl)); (· (with_reducible exact CallE.call (by assumption) hE)); (try simp only [Act.put, List.setIfInBounds_toArray, List.set_cons_zero, List.set_cons_succ])))
            refine seqr_done (fun ρ wN hEN hFN => ?_); (try simp only [fill, Act.put, List.setIfInBounds_toArray, List.set_cons_zero, List.set_cons_succ]); refine (show K _ _ from hK.out _ _ ?_); clear hK K
            go_wp2_with fail
            go_roundw
            case rel =>
              exact ⟨i + 1, by omega, by go_num, HR.out _ _ _ _ _ _ _ HS3.out HP3.out (by rw [hl.out]) (by rw [HM1.out]) (by rw [HM2.out]), HKB.out.step (hE2.trans hEN), HE1.out.th (hE2.trans hEN)⟩
            case measure => simp [intOf]; omega
      · have hone' : P' = P := by rw [hone, if_neg (by simpa using fun h => hk1 (by omega))]; simp
        subst hone'
        have tk0 : ((k : Int) != 1) = true := by simp; omega
        clear hone hk1
        go_wp2_with fail
        go_roundw
        case rel => exact ⟨i + 1, by omega, by go_num, HR.out _ _ _ _ _ _ _ HS2.out HP2.out rfl rfl rfl, HKB.out, HE1.out⟩
        case measure => simp [intOf]; omega
    · obtain rfl : i = len := by omega
      have hall : L.take i = L := List.take_of_length_le (by omega)
      rw [hall] at hs hp ⊢
      have hK0 : Hid (KB wr w2.heap.size (fun k => (cnt (isKind (k : Int) true) L : Nat))) := by
        have := hKB
        unfold cK at this
        rw [hall] at this
        exact this
      have hvr := hv2.below hbr
      have hml := HML.out
      have e1 : CallE Try.prog wr _ _ _ := fun w h => sum_any a i cap L w (hvr.below h) (by omega) hml
      have e2 : CallE Try.prog wr _ _ _ := fun w h => product_any a i cap L w (hvr.below h) (by omega) hml
      have e3 : CallE Try.prog wr _ _ _ := fun w h => average_any a i cap L w (hvr.below h) (by omega) hml
      have e4 : CallE Try.prog wr _ _ _ := fun w h => extreme_any false a i cap L w (hvr.below h) (by omega)
      have e5 : CallE Try.prog wr _ _ _ := fun w h => extreme_any true a i cap L w (hvr.below h) (by omega)
      have e6 : CallE Try.prog wr _ _ _ := fun w h => count_any 1 true a i cap L w (hvr.below h) (by omega)
      have e7 : CallE Try.prog wr _ _ _ := fun w h => count_any 0 false a i cap L w (hvr.below h) (by omega)
      have e8 : CallE Try.prog wr _ _ _ := fun w _ => made_end hs w
      have e9 : CallE Try.prog wr _ _ _ := fun w _ => made_end hp w
      have e10 : CallE Try.prog wr _ _ _ := fun w _ => vnum_any (extV false (nums L)) w
      have e11 : CallE Try.prog wr _ _ _ := fun w _ => vnum_any (extV true (nums L)) w
      have e12 : CallE Try.prog wr _ _ _ := fun w _ => vnum_any ((nums L).length * 1000000 : Int) w
      have e13 : CallE Try.prog wr _ _ _ := fun w _ => vnum_any ((cnt (isKind 0 false) L : Nat) * 1000000 : Int) w
      rw [cnt_num L] at e6
      have hcn := cnt_not L
      have hsb := sumO_bd (nums L)
      obtain ⟨P, hP⟩ : ∃ P, nums L = P := ⟨_, rfl⟩
      have hPl : P.length ≤ 100 := by have := nums_le L; rw [hP] at this; omega
      rw [hP] at hs hp e1 e2 e3 e4 e5 e6 e8 e9 e10 e11 e12 hsb ⊢
      have HS := Lib.hid hs
      have HSB := Lib.hid hsb
      obtain ⟨m, hm⟩ : ∃ m, P.length = m := ⟨_, rfl⟩
      have hm100 : m ≤ 100 := by omega
      rw [hm] at e6 e12 ⊢
      have HM := Lib.hid hm
      obtain ⟨K, hK⟩ : ∃ K, avgK P = K := ⟨_, rfl⟩
      obtain ⟨N, hN⟩ : ∃ N, avgN P = N := ⟨_, rfl⟩
      rw [hK, hN] at e3
      have HKK := Lib.hid hK
      have HNN := Lib.hid hN
      have HCN := Lib.hid hcn
      have hb2r := hb2.th hbr
      clear hs hp hm hK hN hcn hsb hall hKB hml hP hPl
      go_upto_if 72 with (go_at_call 18; refine (vfail_any 1 _).mono ?_; rintro e w3 ⟨rfl, hb3⟩)
      have hv13 := VB.new w3 ⟨4, 1, { data := #[] }⟩
      have hE3 : Ext wr (w3.alloc (.cells #[.int .i64 4, .int .i64 1, .string { data := #[] }] 26)) := Below.al hb3 _
      have HV13 := Lib.hid hv13
      have HE3 := Lib.hid hE3
      have hg13 : wr.heap.size ≤ w3.heap.size := hb3.size
      clear hv13 hE3
      go_cut [13] (fun s13 wc => s13 = .pointer (some ⟨w3.heap.size, 0, none⟩) ∧ VB wc w3.heap.size ⟨K, N, { data := #[] }⟩ ∧ Ext wr wc)
      case first =>
        by_cases hm0 : m = 0
        · have k1 : Hid (K = 4 ∧ N = 1) := by
            show _ ∧ _
            rw [← HKK.out, ← HNN.out, avgK, avgN, if_pos (HM.out.trans hm0), if_pos (HM.out.trans hm0)]
            exact ⟨rfl, rfl⟩
          have tn : ¬ (0 : Int) < (m : Int) := by omega
          clear hm0
          go_wp2_with fail
          go_meet
          case rel => exact ⟨rfl, by rw [k1.out.1, k1.out.2]; exact HV13.out, HE3.out⟩
        · have tn : (0 : Int) < (m : Int) := by omega
          have hmne : Hid (P.length ≠ 0) := by show _ ≠ _; rw [HM.out]; exact hm0
          clear hm0
          go_wp2_with fail
          refine (vfail_any 5 _).mono ?_
          rintro e w4 ⟨rfl, hb4⟩
          have hv4 := HV13.out.step hb4
          have HV4 := Lib.hid hv4
          obtain ⟨⟨d0, d1, d2, d3⟩, d4, d5, d6⟩ := hv4
          rcases HS.out with ⟨s, hs, hsm, rfl, rfl⟩ | ⟨hs, c, rfl, rfl⟩
          · obtain ⟨D, hD⟩ : ∃ D, (m : Int) * 1000000 = D := ⟨_, rfl⟩
            obtain ⟨V, Bo, k, n, hk, hn, hq, hmd⟩ := quo_end s D hsm (by unfold Mant; omega) (by omega)
            have HD := Lib.hid hD
            have hav : Hid (K = k ∧ N = n) := by
              show _ ∧ _
              rw [← HKK.out, ← HNN.out, avgK, avgN, if_neg hmne.out, if_neg hmne.out, avgO, hs, hk, hn, HM.out, hD]
              exact ⟨rfl, rfl⟩
            have HQ := Lib.hid hq
            have HMD := Lib.hid hmd
            clear hk hn hq hmd hs hD
            go_wp2_with fail
            obtain ⟨W5, hW5, hvb5, hbl5, -⟩ := HV4.out.put ⟨4, 5, { data := #[] }⟩
            simp only at hW5
            rw [hW5]
            clear hW5
            have hE5 : Ext wr W5 := Below.trans (HE3.out.trans hb4) (hbl5 _ hg13)
            rw [HD.out]
            refine (HQ.out _).mono ?_
            rintro e w6 ⟨rfl, hb6⟩
            have hE6 : Ext wr w6 := hE5.trans hb6
            have hvb6 := hvb5.step hb6
            clear hvb5 hbl5 d0 d1 d2 d3 d4 d5 d6
            go_wp2_with fail
            refine (HMD.out _).mono ?_
            rintro e w7 ⟨rfl, hb7⟩
            have hE7 : Ext wr w7 := hE6.trans hb7
            have hvb7 := hvb6.step hb7
            have HV7 := Lib.hid hvb7
            obtain ⟨⟨d0, d1, d2, d3⟩, d4, d5, d6⟩ := hvb7
            clear hvb6
            go_wp2_with fail
            go_meet
            obtain ⟨W8, hW8, hvb8, hbl8, -⟩ := HV7.out.put ⟨k, n, { data := #[] }⟩
            simp only at hW8
            rw [hW8]
            exact ⟨rfl, by rw [hav.out.1, hav.out.2]; exact hvb8, Below.trans hE7 (hbl8 _ hg13)⟩
          · have hav : Hid (K = 4 ∧ N = 5) := by
              show _ ∧ _
              rw [← HKK.out, ← HNN.out, avgK, avgN, if_neg hmne.out, if_neg hmne.out, avgO, hs]
              exact ⟨rfl, rfl⟩
            clear hs
            go_wp2_with fail
            go_meet
            obtain ⟨W5, hW5, hvb5, hbl5, -⟩ := HV4.out.put ⟨4, 5, { data := #[] }⟩
            simp only at hW5
            rw [hW5]
            exact ⟨rfl, by rw [hav.out.1, hav.out.2]; exact hvb5, Below.trans (HE3.out.trans hb4) (hbl5 _ hg13)⟩
      case rest =>
        as_aux_lemma =>
          obtain ⟨rfl, ⟨⟨b0, b1, b2, b3⟩, -⟩, hEc⟩ := hcut
          have hKBc := hK0.out.step hEc
          obtain ⟨q0, hq⟩ := hKBc
          have q1 : _ = some (Value.int .i64 ((cnt (isKind 0 true) L : Nat) : Int)) := (hq 0 (by omega)).1
          simp only at b1 b2 b3
          have c0 := ext_cell b0 b1
          have c1 := ext_cell b0 b2
          have c2 := ext_cell b0 b3
          have c3 := ext_cell q0 q1
          replace e1 := e1.more hEc
          replace e2 := e2.more hEc
          replace e3 := e3.more hEc
          replace e4 := e4.more hEc
          replace e5 := e5.more hEc
          replace e6 := e6.more hEc
          replace e7 := e7.more hEc
          replace e8 := e8.more hEc
          replace e9 := e9.more hEc
          replace e10 := e10.more hEc
          replace e11 := e11.more hEc
          replace e12 := e12.more hEc
          replace e13 := e13.more hEc
          have hb9 := hb2r.th hEc
          have hcn := HCN.out
          obtain ⟨x0, hx0⟩ : ∃ x, cnt (isKind 0 true) L = x := ⟨_, rfl⟩
          obtain ⟨x1, hx1⟩ : ∃ x, cnt (isKind 0 false) L = x := ⟨_, rfl⟩
          rw [hx0] at c3 hcn
          rw [hx1] at e7 e13 hcn
          obtain ⟨M, hM⟩ : ∃ M, (m : Int) * 1000000 = M := ⟨_, rfl⟩
          obtain ⟨X, hX⟩ : ∃ X, (x1 : Int) * 1000000 = X := ⟨_, rfl⟩
          rw [hM] at e6 e12
          rw [hX] at e7 e13
          have r1 : IntKind.i64.wrap M = M := by rw [IntKind.wrap_i64]; omega
          have r2 : IntKind.i64.wrap (x1 : Int) = (x1 : Int) := by clear r1; rw [IntKind.wrap_i64]; omega
          have r3 : IntKind.i64.wrap X = X := by clear r1 r2; rw [IntKind.wrap_i64]; omega
          have r4 : (m : Int) * 1000000 = M := hM
          have r5 : (x1 : Int) * 1000000 = X := hX
          have r6 : (i : Int) - (x0 : Int) = (x1 : Int) := by clear r1 r2 r3 r4 r5; omega
          clear hM hX
          clear hx0 hx1 hcn hq q1 HCN HKK HNN HS HSB hEc b1 b2 b3
          go_wp2_with fail
          refine region_any (by kernel_rfl) (by kernel_rfl) rfl (fun K hK => ?_)
          repeat (first | (refine seqr_skip (by rfl) (fun ρ => by rfl) ?_; (try simp only [Act.put, List.setIfInBounds_toArray, List.set_cons_zero, List.set_cons_succ])) | (refine seqr_pure (v := ?_) (by rfl) (fun ρ => by rfl) (fun ρ w hE hF => ?_) ?_; rotate_left 1; (· ((try simp only [fill, Act.put, List.setIfInBounds_toArray, List.set_cons_zero, List.set_cons_succ]); go_simp; try with_reducible rfl)); (try simp only [Act.put, List.setIfInBounds_toArray, List.set_cons_zero, List.set_cons_succ])) | (refine seqr_call0 (v := ?_) (f := ?_) (args := ?_) (by rfl) (fun ρ => by rfl) (fun ρ w => ?_) (fun w hE => ?_) ?_; rotate_left 3; (· ((try simp only [fill, Act.put, List.setIfInBounds_toArray, List.set_cons_zero, List.set_cons_succ]); go_simp; constructor <;> with_reducible rfl)); (· (with_reducible exact CallE.call (by assumption) hE)); (try simp only [Act.put, List.setIfInBounds_toArray, List.set_cons_zero, List.set_cons_succ])))
          refine seqr_done (fun ρ wN hEN hFN => ?_); (try simp only [fill, Act.put, List.setIfInBounds_toArray, List.set_cons_zero, List.set_cons_succ]); refine (show K _ _ from hK.out _ _ ?_); clear hK K
          go_wp2_with fail
          go_ret
          exact ⟨rfl, hb9.th hEN⟩
end Go.Proofs.Ytpnnjmckjipacaa.listsSums
