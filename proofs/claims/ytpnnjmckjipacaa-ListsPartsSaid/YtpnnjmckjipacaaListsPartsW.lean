/-
  ListsParts: walk. Conditions: the arguments' own.
-/
import Derived.Test.YtpnnjmckjipacaaLPlain
namespace Go.Proofs.Ytpnnjmckjipacaa.listsParts
open Go.RowKit Num
set_option linter.unusedVariables false

set_option maxHeartbeats 4000000 in
theorem walk (a0 : Option Addr) (len0 cap0 : Nat) (A : List Vl) (a1 : Option Addr) (len1 cap1 : Nat) (B : List Vl) (w : World) (hA : VArg w a0 len0 cap0 A) (hB : VArg w a1 len1 cap1 B) :
    Calls Try.prog 3 #[.slice a0 len0 cap0, .slice a1 len1 cap1] w fun e w' => e = .returned (.bool true) ∧ Below w.heap.size w w' := by
  have fd := vfield1
  go_enter Try.func3, Try.ntmps3
  go_wp2_with fail
  refine (fit_any _).mono ?_
  rintro e w1 ⟨rfl, hb1⟩
  go_wp2_with fail
  refine (light_any a0 len0 cap0 A _ ⟨hA.1.below hb1, hA.2⟩).mono ?_
  rintro e w2 ⟨u, rfl, hb2', hlA⟩
  have hb2 := hb1.trans (hb2'.mono hb1.size)
  clear hb1 hb2'
  cases u
  · go_wp2
    go_ret
    exact ⟨rfl, hb2⟩
  go_wp2_with fail
  refine (light_any a1 len1 cap1 B _ ⟨hB.1.below hb2, hB.2⟩).mono ?_
  rintro e w3 ⟨u, rfl, hb3', hlB⟩
  have hb3 := hb2.trans (hb3'.mono hb2.size)
  clear hb2 hb3'
  cases u
  · go_wp2
    go_ret
    exact ⟨rfl, hb3⟩
  have hlA := hlA (by trivial)
  have hlB := hlB (by trivial)
  have hmA := light_mants hA hlA
  have hmB := light_mants hB hlB
  have h100A := hlA.1
  have h100B := hlB.1
  have hvA := hA.1
  have hvB := hB.1
  have HNA := Lib.hid hA.2.2.2
  have HNB := Lib.hid hB.2.2.2
  have HMA := Lib.hid hmA
  have HMB := Lib.hid hmB
  clear hlA hlB hA hB hmA hmB
  have hA3 := hvA.below hb3
  have hB3 := hvB.below hb3
  go_wp2_with (at_builtin; first
    | (refine app_vals rfl (.const (.slice none 0 0)) (.tmp 22) rfl _ [] rfl (World.ownsRow_nil _ _ _ _) (Below.refl _ _) a0 len0 cap0 A rfl hA3 HNA.out (by simp; omega) ?_; intro v4 w4 hown4 hb4)
    | (refine app_vals rfl (.tmp 23) (.tmp 24) rfl _ ([] ++ A) rfl hown4 hb4 a1 len1 cap1 B rfl (hB3.below hb4) HNB.out (by have := hA3.1; simp; omega) ?_; intro v5 w5 hown5 hb5))
  have hb6 := hb3.trans (hb5.mono hb3.size)
  obtain ⟨a5, cap5, rfl, hin5, hcp5⟩ := own_vals hown5
  have hA5 := hvA.below hb6
  have hB5 := hvB.below hb6
  have hlen : ([] ++ A ++ B).length = len0 + len1 := by have := hvA.1; have := hvB.1; simp; omega
  have hcapp : cnt (isKind 1 true) ([] ++ A ++ B) = cnt (isKind 1 true) A + cnt (isKind 1 true) B := by rw [cnt_app]; rfl
  have hcno := cnt_not ([] ++ A ++ B)
  have hnapp : nums ([] ++ A ++ B) = nums A ++ nums B := by rw [nums_app]; rfl
  rw [hlen] at hin5 hcp5 hcno ⊢
  obtain ⟨C, hC⟩ : ∃ C, [] ++ A ++ B = C := ⟨_, rfl⟩
  rw [hC] at hin5 hcapp hnapp hcno
  have hcA : cnt (isKind 1 true) A ≤ 100 := Nat.le_trans (cnt_le _ _) (by have := hvA.1; omega)
  have hcB : cnt (isKind 1 true) B ≤ 100 := Nat.le_trans (cnt_le _ _) (by have := hvB.1; omega)
  have HC1 := Lib.hid (cnt_num A)
  have HC2 := Lib.hid (cnt_num B)
  obtain ⟨nC, hnC⟩ : ∃ n, cnt (isKind 1 true) C = n := ⟨_, rfl⟩
  obtain ⟨nA, hnA⟩ : ∃ n, cnt (isKind 1 true) A = n := ⟨_, rfl⟩
  obtain ⟨nB, hnB⟩ : ∃ n, cnt (isKind 1 true) B = n := ⟨_, rfl⟩
  obtain ⟨zC, hzC⟩ : ∃ n, cnt (isKind 0 true) C = n := ⟨_, rfl⟩
  obtain ⟨oC, hoC⟩ : ∃ n, cnt (isKind 0 false) C = n := ⟨_, rfl⟩
  rw [hnC, hnA, hnB] at hcapp
  rw [hzC, hoC] at hcno
  rw [hnA] at hcA HC1
  rw [hnB] at hcB HC2
  obtain ⟨m, hm⟩ : ∃ m, len0 + len1 = m := ⟨_, rfl⟩
  rw [hm] at hin5 hcp5 hcno ⊢
  have hm200 : m ≤ 200 := by omega
  have HNAPP := Lib.hid hnapp
  have q1 := fun w h => count_any 1 true a5 m cap5 C w h (by omega)
  have q2 := fun w h => count_any 1 true a0 len0 cap0 A w h (by omega)
  have q3 := fun w h => count_any 1 true a1 len1 cap1 B w h (by omega)
  have q4 := fun w h => count_any 0 true a5 m cap5 C w h (by omega)
  have q5 := fun w h => count_any 0 false a5 m cap5 C w h (by omega)
  rw [hnC] at q1
  rw [hnA] at q2
  rw [hnB] at q3
  rw [hzC] at q4
  rw [hoC] at q5
  have hcI : ((nC : Nat) : Int) * 1000000 = ((nA : Nat) : Int) * 1000000 + ((nB : Nat) : Int) * 1000000 := by omega
  have hzI : ((zC : Nat) : Int) * 1000000 + ((oC : Nat) : Int) * 1000000 = (m : Int) * 1000000 := by omega
  have bA : 0 ≤ ((nA : Nat) : Int) * 1000000 ∧ ((nA : Nat) : Int) * 1000000 ≤ 100000000 := by omega
  have bB : 0 ≤ ((nB : Nat) : Int) * 1000000 ∧ ((nB : Nat) : Int) * 1000000 ≤ 100000000 := by omega
  have bZ : 0 ≤ ((zC : Nat) : Int) * 1000000 ∧ ((zC : Nat) : Int) * 1000000 ≤ 200000000 := by omega
  have bO : 0 ≤ ((oC : Nat) : Int) * 1000000 ∧ ((oC : Nat) : Int) * 1000000 ≤ 200000000 := by omega
  have iA : ((nA : Nat) : Int) * 1000000 ≠ 0 → nA ≠ 0 := by omega
  have iB : ((nB : Nat) : Int) * 1000000 ≠ 0 → nB ≠ 0 := by omega
  obtain ⟨NC, hNC⟩ : ∃ z, ((nC : Nat) : Int) * 1000000 = z := ⟨_, rfl⟩
  obtain ⟨NA, hNA⟩ : ∃ z, ((nA : Nat) : Int) * 1000000 = z := ⟨_, rfl⟩
  obtain ⟨NB, hNB⟩ : ∃ z, ((nB : Nat) : Int) * 1000000 = z := ⟨_, rfl⟩
  obtain ⟨ZC, hZC⟩ : ∃ z, ((zC : Nat) : Int) * 1000000 = z := ⟨_, rfl⟩
  obtain ⟨OC, hOC⟩ : ∃ z, ((oC : Nat) : Int) * 1000000 = z := ⟨_, rfl⟩
  rw [hNC] at q1
  rw [hNA] at q2 bA iA
  rw [hNB] at q3 bB iB
  rw [hZC] at q4 bZ
  rw [hOC] at q5 bO
  rw [hNC, hNA, hNB] at hcI
  rw [hZC, hOC] at hzI
  have IA := Lib.hid iA
  have IB := Lib.hid iB
  subst hcI
  clear hNC hNA hNB hZC hOC iA iB hcno hcapp hcA hcB
  have r1 := fun w h => sum_any a0 len0 cap0 A w h (by omega) HMA.out
  have r2 := fun w h => sum_any a1 len1 cap1 B w h (by omega) HMB.out
  have hmC : Mants (nums C) := by rw [HNAPP.out]; exact mants_app HMA.out HMB.out
  have r3 := fun w h => sum_any a5 m cap5 C w h (by omega) hmC
  have hsapp := fun p q s h1 h2 h3 => sumO_app (xs := nums A) (ys := nums B) (p := p) (q := q) (s := s) h1 h2 (by rw [← HNAPP.out]; exact h3)
  have hbdA := sumO_bd (nums A)
  have hbdB := sumO_bd (nums B)
  have hbdC := sumO_bd (nums C)
  obtain ⟨oA, hoA⟩ : ∃ o, sumO (nums A) = o := ⟨_, rfl⟩
  obtain ⟨oB, hoB⟩ : ∃ o, sumO (nums B) = o := ⟨_, rfl⟩
  obtain ⟨oC, hoC⟩ : ∃ o, sumO (nums C) = o := ⟨_, rfl⟩
  rw [hoA, hoB, hoC] at hsapp
  rw [hoA] at r1 hbdA
  rw [hoB] at r2 hbdB
  rw [hoC] at r3 hbdC
  have hext := fun g => ext_app g (xs := nums A) (ys := nums B)
  rw [← HNAPP.out] at hext
  have HEX := Lib.hid hext
  have HSA := Lib.hid hsapp
  have HBA := Lib.hid hbdA
  have HBB := Lib.hid hbdB
  have HBC := Lib.hid hbdC
  have R1 := Lib.hid r1
  have R2 := Lib.hid r2
  have R3 := Lib.hid r3
  have e1 := fun w h => extreme_any true a5 m cap5 C w h (by omega)
  have e2 := fun w h => extreme_any true a0 len0 cap0 A w h (by omega)
  have e3 := fun w h => extreme_any true a1 len1 cap1 B w h (by omega)
  have e4 := fun w h => extreme_any false a5 m cap5 C w h (by omega)
  have e5 := fun w h => extreme_any false a0 len0 cap0 A w h (by omega)
  have e6 := fun w h => extreme_any false a1 len1 cap1 B w h (by omega)
  obtain ⟨M1, hM1⟩ : ∃ z, extV true (nums C) = z := ⟨_, rfl⟩
  obtain ⟨M2, hM2⟩ : ∃ z, extV true (nums A) = z := ⟨_, rfl⟩
  obtain ⟨M3, hM3⟩ : ∃ z, extV true (nums B) = z := ⟨_, rfl⟩
  obtain ⟨M4, hM4⟩ : ∃ z, extV false (nums C) = z := ⟨_, rfl⟩
  obtain ⟨M5, hM5⟩ : ∃ z, extV false (nums A) = z := ⟨_, rfl⟩
  obtain ⟨M6, hM6⟩ : ∃ z, extV false (nums B) = z := ⟨_, rfl⟩
  rw [hM1] at e1
  rw [hM2] at e2
  rw [hM3] at e3
  rw [hM4] at e4
  rw [hM5] at e5
  rw [hM6] at e6
  have hMt := hext true
  have hMf := hext false
  rw [hM1, hM2, hM3] at hMt
  rw [hM4, hM5, hM6] at hMf
  have HMT := Lib.hid hMt
  have HMF := Lib.hid hMf
  have E1 := Lib.hid e1
  have E2 := Lib.hid e2
  have E3 := Lib.hid e3
  have E4 := Lib.hid e4
  have E5 := Lib.hid e5
  have E6 := Lib.hid e6
  clear r1 r2 r3 hmC hsapp hbdA hbdB hbdC hoA hoB hoC hext e1 e2 e3 e4 e5 e6 hMt hMf hM1 hM2 hM3 hM4 hM5 hM6
  have Q1 := Lib.hid q1
  have Q2 := Lib.hid q2
  have Q3 := Lib.hid q3
  have Q4 := Lib.hid q4
  have Q5 := Lib.hid q5
  have HM := Lib.hid hm
  have HVA := Lib.hid hvA
  have HVB := Lib.hid hvB
  clear hA3 hB3 hown4 hb4 hown5 hb5 hb3 hlen hnapp hnC hnA hnB hzC hoC hC hm q1 q2 q3 q4 q5 hvA hvB
  refine (Q1.out _ hin5).mono ?_
  rintro e w6 ⟨rfl, hb7'⟩
  have hb7 := hb6.th hb7'
  go_wp2_with fail
  refine (Q2.out _ (HVA.out.below hb7)).mono ?_
  rintro e w7 ⟨rfl, hb8'⟩
  have hb8 := hb7.th hb8'
  go_wp2_with fail
  refine (Q3.out _ (HVB.out.below hb8)).mono ?_
  rintro e w8 ⟨rfl, hb9'⟩
  have hb9 := hb8.th hb9'
  have hC9 := ((hin5.below hb7').below hb8').below hb9'
  clear hb7 hb8 hb7' hb8' hb9' hin5 hb6
  go_wp2_with fail
  obtain ⟨W1, hW1, b1, x1, s1⟩ := start_x w8 1 (NA + NB) { data := #[] }
  obtain ⟨W2, hW2, b2, x2, s2⟩ := start_x W1 1 NA { data := #[] }
  obtain ⟨W3, hW3, b3, x3, s3⟩ := start_x W2 1 NB { data := #[] }
  rw [hW1, hW2, hW3]
  rw [s1] at x2
  rw [s2, s1] at x3
  obtain ⟨g2, hg2⟩ : ∃ g, w8.heap.size + 1 + 1 = g := ⟨_, rfl⟩
  obtain ⟨g1, hg1⟩ : ∃ g, w8.heap.size + 1 = g := ⟨_, rfl⟩
  rw [hg2] at x3 ⊢
  rw [hg1] at x2 ⊢
  have hb10 := ((hb9.th b1).th b2).th b3
  have hC10 := ((hC9.below b1).below b2).below b3
  have x2' := x2.step b3
  clear hb9 hC9 hW1 hW2 hW3 b1 b2 b3 x1 x2 s1 s2 s3
  refine (Q4.out _ hC10).mono ?_
  rintro e w9 ⟨rfl, hb11'⟩
  have hb11 := hb10.th hb11'
  have hC11 := hC10.below hb11'
  have x2 := x2'.step hb11'
  have x3' := x3.step hb11'
  clear x2' x3 hb11' hb10 hC10
  go_wp2_with fail
  refine (Q5.out _ hC11).mono ?_
  rintro e w10 ⟨rfl, hb12'⟩
  have hb12 := hb11.th hb12'
  have hC12 := hC11.below hb12'
  have x2' := x2.step hb12'
  have x3 := x3'.step hb12'
  clear x2 x3' hb12' hb11 hC11
  obtain ⟨kA, hkA⟩ : ∃ x, oK oA = x := ⟨_, rfl⟩
  obtain ⟨kB, hkB⟩ : ∃ x, oK oB = x := ⟨_, rfl⟩
  obtain ⟨kC, hkC⟩ : ∃ x, oK oC = x := ⟨_, rfl⟩
  obtain ⟨sA, hsA⟩ : ∃ x, oN oA = x := ⟨_, rfl⟩
  obtain ⟨sB, hsB⟩ : ∃ x, oN oB = x := ⟨_, rfl⟩
  obtain ⟨sC, hsC⟩ : ∃ x, oN oC = x := ⟨_, rfl⟩
  have r1 := R1.out
  have r2 := R2.out
  have r3 := R3.out
  rw [hkA, hsA] at r1
  rw [hkB, hsB] at r2
  rw [hkC, hsC] at r3
  have S1 := Lib.hid r1
  have S2 := Lib.hid r2
  have S3 := Lib.hid r3
  have HK1 := Lib.hid hkA
  have HK2 := Lib.hid hkB
  have HK3 := Lib.hid hkC
  have HN1 := Lib.hid hsA
  have HN2 := Lib.hid hsB
  have HN3 := Lib.hid hsC
  clear r1 r2 r3 R1 R2 R3 hkA hkB hkC hsA hsB hsC
  go_wp2_with fail
  refine (S1.out _ (HVA.out.below hb12)).mono ?_
  rintro e w11 ⟨rfl, hb13'⟩
  have hb13 := hb12.th hb13'
  have hC13 := hC12.below hb13'
  have x2 := x2'.step hb13'
  have x3' := x3.step hb13'
  clear x2' x3 hb13' hb12 hC12
  go_wp2_with fail
  refine (S2.out _ (HVB.out.below hb13)).mono ?_
  rintro e w12 ⟨rfl, hb14'⟩
  have hb14 := hb13.th hb14'
  have hC14 := hC13.below hb14'
  have x2' := x2.step hb14'
  have x3 := x3'.step hb14'
  clear x2 x3' hb14' hb13 hC13
  go_wp2_with fail
  refine (S3.out _ hC14).mono ?_
  rintro e w13 ⟨rfl, hb15'⟩
  have hb15 := hb14.th hb15'
  have hC15 := hC14.below hb15'
  obtain ⟨y0, y1, y2, y3⟩ := x2'.step hb15'
  obtain ⟨z0, z1, z2, z3⟩ := x3.step hb15'
  clear x2' x3 hb15' hb14 hC14
  have y4 : g1 < w13.heap.size + 1 := by omega
  have y5 : g1 < w13.heap.size + 1 + 1 := by omega
  have z4 : g2 < w13.heap.size + 1 := by omega
  have z5 : g2 < w13.heap.size + 1 + 1 := by omega
  by_cases hn : NA = 0
  · subst hn
    cases oA with
    | none =>
      obtain rfl : (4 : Int) = kA := HK1.out
      go_wp2
      go_ret
      exact ⟨rfl, ((hb15.al _).al _).al _⟩
    | some pA =>
      obtain rfl : (1 : Int) = kA := HK1.out
      obtain rfl : pA = sA := HN1.out
      cases oB with
      | none =>
        obtain rfl : (4 : Int) = kB := HK2.out
        go_wp2
        go_ret
        exact ⟨rfl, ((hb15.al _).al _).al _⟩
      | some pB =>
        obtain rfl : (1 : Int) = kB := HK2.out
        obtain rfl : pB = sB := HN2.out
        cases oC with
        | none =>
          obtain rfl : (4 : Int) = kC := HK3.out
          go_wp2
          go_ret
          exact ⟨rfl, ((hb15.al _).al _).al _⟩
        | some pC =>
          obtain rfl : (1 : Int) = kC := HK3.out
          obtain rfl : pC = sC := HN3.out
          obtain rfl := HSA.out _ _ _ rfl rfl rfl
          obtain ⟨bs1, bs2⟩ := HBC.out _ rfl
          go_wp2
          go_ret
          exact ⟨rfl, ((hb15.al _).al _).al _⟩
  by_cases hn2 : NB = 0
  · subst hn2
    cases oA with
    | none =>
      obtain rfl : (4 : Int) = kA := HK1.out
      go_wp2
      go_ret
      exact ⟨rfl, ((hb15.al _).al _).al _⟩
    | some pA =>
      obtain rfl : (1 : Int) = kA := HK1.out
      obtain rfl : pA = sA := HN1.out
      cases oB with
      | none =>
        obtain rfl : (4 : Int) = kB := HK2.out
        go_wp2
        go_ret
        exact ⟨rfl, ((hb15.al _).al _).al _⟩
      | some pB =>
        obtain rfl : (1 : Int) = kB := HK2.out
        obtain rfl : pB = sB := HN2.out
        cases oC with
        | none =>
          obtain rfl : (4 : Int) = kC := HK3.out
          go_wp2
          go_ret
          exact ⟨rfl, ((hb15.al _).al _).al _⟩
        | some pC =>
          obtain rfl : (1 : Int) = kC := HK3.out
          obtain rfl : pC = sC := HN3.out
          obtain rfl := HSA.out _ _ _ rfl rfl rfl
          obtain ⟨bs1, bs2⟩ := HBC.out _ rfl
          go_wp2
          go_ret
          exact ⟨rfl, ((hb15.al _).al _).al _⟩
  have tA : (NA == 0) = false := by simpa using hn
  have tB : (NB == 0) = false := by simpa using hn2
  have hx1 : M1 = max M2 M3 := HMT.out (by rw [← HC1.out]; exact IA.out hn) (by rw [← HC2.out]; exact IB.out hn2)
  have hx2 : M4 = min M5 M6 := HMF.out (by rw [← HC1.out]; exact IA.out hn) (by rw [← HC2.out]; exact IB.out hn2)
  clear hn hn2
  by_cases hm1 : M2 < M3
  · obtain rfl : M1 = M3 := by omega
    clear hx1
    by_cases hm2 : ¬ M6 < M5
    · obtain rfl : M4 = M5 := by omega
      have hm2' : M4 ≤ M6 := by omega
      clear hx2
      cases oA with
      | none =>
        obtain rfl : (4 : Int) = kA := HK1.out
        go_wp2_with fail
        refine (E1.out _ (((hC15.alloc _).alloc _).alloc _)).mono ?_
        rintro e w14 ⟨rfl, hb16'⟩
        have hb16 := (((hb15.al _).al _).al _).th hb16'
        have hC16 := (((hC15.alloc _).alloc _).alloc _).below hb16'
        clear hb15 hC15 hb16'
        go_wp2_with fail
        refine (E2.out _ (HVA.out.below hb16)).mono ?_
        rintro e w15 ⟨rfl, hb17'⟩
        have hb17 := hb16.th hb17'
        have hC17 := hC16.below hb17'
        clear hb16 hC16 hb17'
        go_wp2_with fail
        refine (E3.out _ (HVB.out.below hb17)).mono ?_
        rintro e w16 ⟨rfl, hb18'⟩
        have hb18 := hb17.th hb18'
        have hC18 := hC17.below hb18'
        clear hb17 hC17 hb18'
        go_wp2_with fail
        refine (E4.out _ hC18).mono ?_
        rintro e w17 ⟨rfl, hb19'⟩
        have hb19 := hb18.th hb19'
        clear hb18 hC18 hb19'
        go_wp2_with fail
        refine (E5.out _ (HVA.out.below hb19)).mono ?_
        rintro e w18 ⟨rfl, hb20'⟩
        have hb20 := hb19.th hb20'
        clear hb19 hb20'
        go_wp2_with fail
        refine (E6.out _ (HVB.out.below hb20)).mono ?_
        rintro e w19 ⟨rfl, hb21'⟩
        have hb21 := hb20.th hb21'
        clear hb20 hb21'
        go_wp2
        go_ret
        exact ⟨rfl, hb21⟩
      | some pA =>
        obtain rfl : (1 : Int) = kA := HK1.out
        obtain rfl : pA = sA := HN1.out
        cases oB with
        | none =>
          obtain rfl : (4 : Int) = kB := HK2.out
          go_wp2_with fail
          refine (E1.out _ (((hC15.alloc _).alloc _).alloc _)).mono ?_
          rintro e w14 ⟨rfl, hb16'⟩
          have hb16 := (((hb15.al _).al _).al _).th hb16'
          have hC16 := (((hC15.alloc _).alloc _).alloc _).below hb16'
          clear hb15 hC15 hb16'
          go_wp2_with fail
          refine (E2.out _ (HVA.out.below hb16)).mono ?_
          rintro e w15 ⟨rfl, hb17'⟩
          have hb17 := hb16.th hb17'
          have hC17 := hC16.below hb17'
          clear hb16 hC16 hb17'
          go_wp2_with fail
          refine (E3.out _ (HVB.out.below hb17)).mono ?_
          rintro e w16 ⟨rfl, hb18'⟩
          have hb18 := hb17.th hb18'
          have hC18 := hC17.below hb18'
          clear hb17 hC17 hb18'
          go_wp2_with fail
          refine (E4.out _ hC18).mono ?_
          rintro e w17 ⟨rfl, hb19'⟩
          have hb19 := hb18.th hb19'
          clear hb18 hC18 hb19'
          go_wp2_with fail
          refine (E5.out _ (HVA.out.below hb19)).mono ?_
          rintro e w18 ⟨rfl, hb20'⟩
          have hb20 := hb19.th hb20'
          clear hb19 hb20'
          go_wp2_with fail
          refine (E6.out _ (HVB.out.below hb20)).mono ?_
          rintro e w19 ⟨rfl, hb21'⟩
          have hb21 := hb20.th hb21'
          clear hb20 hb21'
          go_wp2
          go_ret
          exact ⟨rfl, hb21⟩
        | some pB =>
          obtain rfl : (1 : Int) = kB := HK2.out
          obtain rfl : pB = sB := HN2.out
          cases oC with
          | none =>
            obtain rfl : (4 : Int) = kC := HK3.out
            go_wp2_with fail
            refine (E1.out _ (((hC15.alloc _).alloc _).alloc _)).mono ?_
            rintro e w14 ⟨rfl, hb16'⟩
            have hb16 := (((hb15.al _).al _).al _).th hb16'
            have hC16 := (((hC15.alloc _).alloc _).alloc _).below hb16'
            clear hb15 hC15 hb16'
            go_wp2_with fail
            refine (E2.out _ (HVA.out.below hb16)).mono ?_
            rintro e w15 ⟨rfl, hb17'⟩
            have hb17 := hb16.th hb17'
            have hC17 := hC16.below hb17'
            clear hb16 hC16 hb17'
            go_wp2_with fail
            refine (E3.out _ (HVB.out.below hb17)).mono ?_
            rintro e w16 ⟨rfl, hb18'⟩
            have hb18 := hb17.th hb18'
            have hC18 := hC17.below hb18'
            clear hb17 hC17 hb18'
            go_wp2_with fail
            refine (E4.out _ hC18).mono ?_
            rintro e w17 ⟨rfl, hb19'⟩
            have hb19 := hb18.th hb19'
            clear hb18 hC18 hb19'
            go_wp2_with fail
            refine (E5.out _ (HVA.out.below hb19)).mono ?_
            rintro e w18 ⟨rfl, hb20'⟩
            have hb20 := hb19.th hb20'
            clear hb19 hb20'
            go_wp2_with fail
            refine (E6.out _ (HVB.out.below hb20)).mono ?_
            rintro e w19 ⟨rfl, hb21'⟩
            have hb21 := hb20.th hb21'
            clear hb20 hb21'
            go_wp2
            go_ret
            exact ⟨rfl, hb21⟩
          | some pC =>
            obtain rfl : (1 : Int) = kC := HK3.out
            obtain rfl : pC = sC := HN3.out
            obtain rfl := HSA.out _ _ _ rfl rfl rfl
            obtain ⟨bs1, bs2⟩ := HBC.out _ rfl
            go_wp2_with fail
            refine (E1.out _ (((hC15.alloc _).alloc _).alloc _)).mono ?_
            rintro e w14 ⟨rfl, hb16'⟩
            have hb16 := (((hb15.al _).al _).al _).th hb16'
            have hC16 := (((hC15.alloc _).alloc _).alloc _).below hb16'
            clear hb15 hC15 hb16'
            go_wp2_with fail
            refine (E2.out _ (HVA.out.below hb16)).mono ?_
            rintro e w15 ⟨rfl, hb17'⟩
            have hb17 := hb16.th hb17'
            have hC17 := hC16.below hb17'
            clear hb16 hC16 hb17'
            go_wp2_with fail
            refine (E3.out _ (HVB.out.below hb17)).mono ?_
            rintro e w16 ⟨rfl, hb18'⟩
            have hb18 := hb17.th hb18'
            have hC18 := hC17.below hb18'
            clear hb17 hC17 hb18'
            go_wp2_with fail
            refine (E4.out _ hC18).mono ?_
            rintro e w17 ⟨rfl, hb19'⟩
            have hb19 := hb18.th hb19'
            clear hb18 hC18 hb19'
            go_wp2_with fail
            refine (E5.out _ (HVA.out.below hb19)).mono ?_
            rintro e w18 ⟨rfl, hb20'⟩
            have hb20 := hb19.th hb20'
            clear hb19 hb20'
            go_wp2_with fail
            refine (E6.out _ (HVB.out.below hb20)).mono ?_
            rintro e w19 ⟨rfl, hb21'⟩
            have hb21 := hb20.th hb21'
            clear hb20 hb21'
            go_wp2
            go_ret
            exact ⟨rfl, hb21⟩
    · obtain rfl : M4 = M6 := by omega
      have hm2' : M4 < M5 := by omega
      clear hm2
      clear hx2
      cases oA with
      | none =>
        obtain rfl : (4 : Int) = kA := HK1.out
        go_wp2_with fail
        refine (E1.out _ (((hC15.alloc _).alloc _).alloc _)).mono ?_
        rintro e w14 ⟨rfl, hb16'⟩
        have hb16 := (((hb15.al _).al _).al _).th hb16'
        have hC16 := (((hC15.alloc _).alloc _).alloc _).below hb16'
        clear hb15 hC15 hb16'
        go_wp2_with fail
        refine (E2.out _ (HVA.out.below hb16)).mono ?_
        rintro e w15 ⟨rfl, hb17'⟩
        have hb17 := hb16.th hb17'
        have hC17 := hC16.below hb17'
        clear hb16 hC16 hb17'
        go_wp2_with fail
        refine (E3.out _ (HVB.out.below hb17)).mono ?_
        rintro e w16 ⟨rfl, hb18'⟩
        have hb18 := hb17.th hb18'
        have hC18 := hC17.below hb18'
        clear hb17 hC17 hb18'
        go_wp2_with fail
        refine (E4.out _ hC18).mono ?_
        rintro e w17 ⟨rfl, hb19'⟩
        have hb19 := hb18.th hb19'
        clear hb18 hC18 hb19'
        go_wp2_with fail
        refine (E5.out _ (HVA.out.below hb19)).mono ?_
        rintro e w18 ⟨rfl, hb20'⟩
        have hb20 := hb19.th hb20'
        clear hb19 hb20'
        go_wp2_with fail
        refine (E6.out _ (HVB.out.below hb20)).mono ?_
        rintro e w19 ⟨rfl, hb21'⟩
        have hb21 := hb20.th hb21'
        clear hb20 hb21'
        go_wp2
        go_ret
        exact ⟨rfl, hb21⟩
      | some pA =>
        obtain rfl : (1 : Int) = kA := HK1.out
        obtain rfl : pA = sA := HN1.out
        cases oB with
        | none =>
          obtain rfl : (4 : Int) = kB := HK2.out
          go_wp2_with fail
          refine (E1.out _ (((hC15.alloc _).alloc _).alloc _)).mono ?_
          rintro e w14 ⟨rfl, hb16'⟩
          have hb16 := (((hb15.al _).al _).al _).th hb16'
          have hC16 := (((hC15.alloc _).alloc _).alloc _).below hb16'
          clear hb15 hC15 hb16'
          go_wp2_with fail
          refine (E2.out _ (HVA.out.below hb16)).mono ?_
          rintro e w15 ⟨rfl, hb17'⟩
          have hb17 := hb16.th hb17'
          have hC17 := hC16.below hb17'
          clear hb16 hC16 hb17'
          go_wp2_with fail
          refine (E3.out _ (HVB.out.below hb17)).mono ?_
          rintro e w16 ⟨rfl, hb18'⟩
          have hb18 := hb17.th hb18'
          have hC18 := hC17.below hb18'
          clear hb17 hC17 hb18'
          go_wp2_with fail
          refine (E4.out _ hC18).mono ?_
          rintro e w17 ⟨rfl, hb19'⟩
          have hb19 := hb18.th hb19'
          clear hb18 hC18 hb19'
          go_wp2_with fail
          refine (E5.out _ (HVA.out.below hb19)).mono ?_
          rintro e w18 ⟨rfl, hb20'⟩
          have hb20 := hb19.th hb20'
          clear hb19 hb20'
          go_wp2_with fail
          refine (E6.out _ (HVB.out.below hb20)).mono ?_
          rintro e w19 ⟨rfl, hb21'⟩
          have hb21 := hb20.th hb21'
          clear hb20 hb21'
          go_wp2
          go_ret
          exact ⟨rfl, hb21⟩
        | some pB =>
          obtain rfl : (1 : Int) = kB := HK2.out
          obtain rfl : pB = sB := HN2.out
          cases oC with
          | none =>
            obtain rfl : (4 : Int) = kC := HK3.out
            go_wp2_with fail
            refine (E1.out _ (((hC15.alloc _).alloc _).alloc _)).mono ?_
            rintro e w14 ⟨rfl, hb16'⟩
            have hb16 := (((hb15.al _).al _).al _).th hb16'
            have hC16 := (((hC15.alloc _).alloc _).alloc _).below hb16'
            clear hb15 hC15 hb16'
            go_wp2_with fail
            refine (E2.out _ (HVA.out.below hb16)).mono ?_
            rintro e w15 ⟨rfl, hb17'⟩
            have hb17 := hb16.th hb17'
            have hC17 := hC16.below hb17'
            clear hb16 hC16 hb17'
            go_wp2_with fail
            refine (E3.out _ (HVB.out.below hb17)).mono ?_
            rintro e w16 ⟨rfl, hb18'⟩
            have hb18 := hb17.th hb18'
            have hC18 := hC17.below hb18'
            clear hb17 hC17 hb18'
            go_wp2_with fail
            refine (E4.out _ hC18).mono ?_
            rintro e w17 ⟨rfl, hb19'⟩
            have hb19 := hb18.th hb19'
            clear hb18 hC18 hb19'
            go_wp2_with fail
            refine (E5.out _ (HVA.out.below hb19)).mono ?_
            rintro e w18 ⟨rfl, hb20'⟩
            have hb20 := hb19.th hb20'
            clear hb19 hb20'
            go_wp2_with fail
            refine (E6.out _ (HVB.out.below hb20)).mono ?_
            rintro e w19 ⟨rfl, hb21'⟩
            have hb21 := hb20.th hb21'
            clear hb20 hb21'
            go_wp2
            go_ret
            exact ⟨rfl, hb21⟩
          | some pC =>
            obtain rfl : (1 : Int) = kC := HK3.out
            obtain rfl : pC = sC := HN3.out
            obtain rfl := HSA.out _ _ _ rfl rfl rfl
            obtain ⟨bs1, bs2⟩ := HBC.out _ rfl
            go_wp2_with fail
            refine (E1.out _ (((hC15.alloc _).alloc _).alloc _)).mono ?_
            rintro e w14 ⟨rfl, hb16'⟩
            have hb16 := (((hb15.al _).al _).al _).th hb16'
            have hC16 := (((hC15.alloc _).alloc _).alloc _).below hb16'
            clear hb15 hC15 hb16'
            go_wp2_with fail
            refine (E2.out _ (HVA.out.below hb16)).mono ?_
            rintro e w15 ⟨rfl, hb17'⟩
            have hb17 := hb16.th hb17'
            have hC17 := hC16.below hb17'
            clear hb16 hC16 hb17'
            go_wp2_with fail
            refine (E3.out _ (HVB.out.below hb17)).mono ?_
            rintro e w16 ⟨rfl, hb18'⟩
            have hb18 := hb17.th hb18'
            have hC18 := hC17.below hb18'
            clear hb17 hC17 hb18'
            go_wp2_with fail
            refine (E4.out _ hC18).mono ?_
            rintro e w17 ⟨rfl, hb19'⟩
            have hb19 := hb18.th hb19'
            clear hb18 hC18 hb19'
            go_wp2_with fail
            refine (E5.out _ (HVA.out.below hb19)).mono ?_
            rintro e w18 ⟨rfl, hb20'⟩
            have hb20 := hb19.th hb20'
            clear hb19 hb20'
            go_wp2_with fail
            refine (E6.out _ (HVB.out.below hb20)).mono ?_
            rintro e w19 ⟨rfl, hb21'⟩
            have hb21 := hb20.th hb21'
            clear hb20 hb21'
            go_wp2
            go_ret
            exact ⟨rfl, hb21⟩
  · obtain rfl : M1 = M2 := by omega
    have hm1' : M3 ≤ M1 := by omega
    clear hx1
    by_cases hm2 : ¬ M6 < M5
    · obtain rfl : M4 = M5 := by omega
      have hm2' : M4 ≤ M6 := by omega
      clear hx2
      cases oA with
      | none =>
        obtain rfl : (4 : Int) = kA := HK1.out
        go_wp2_with fail
        refine (E1.out _ (((hC15.alloc _).alloc _).alloc _)).mono ?_
        rintro e w14 ⟨rfl, hb16'⟩
        have hb16 := (((hb15.al _).al _).al _).th hb16'
        have hC16 := (((hC15.alloc _).alloc _).alloc _).below hb16'
        clear hb15 hC15 hb16'
        go_wp2_with fail
        refine (E2.out _ (HVA.out.below hb16)).mono ?_
        rintro e w15 ⟨rfl, hb17'⟩
        have hb17 := hb16.th hb17'
        have hC17 := hC16.below hb17'
        clear hb16 hC16 hb17'
        go_wp2_with fail
        refine (E3.out _ (HVB.out.below hb17)).mono ?_
        rintro e w16 ⟨rfl, hb18'⟩
        have hb18 := hb17.th hb18'
        have hC18 := hC17.below hb18'
        clear hb17 hC17 hb18'
        go_wp2_with fail
        refine (E4.out _ hC18).mono ?_
        rintro e w17 ⟨rfl, hb19'⟩
        have hb19 := hb18.th hb19'
        clear hb18 hC18 hb19'
        go_wp2_with fail
        refine (E5.out _ (HVA.out.below hb19)).mono ?_
        rintro e w18 ⟨rfl, hb20'⟩
        have hb20 := hb19.th hb20'
        clear hb19 hb20'
        go_wp2_with fail
        refine (E6.out _ (HVB.out.below hb20)).mono ?_
        rintro e w19 ⟨rfl, hb21'⟩
        have hb21 := hb20.th hb21'
        clear hb20 hb21'
        go_wp2
        go_ret
        exact ⟨rfl, hb21⟩
      | some pA =>
        obtain rfl : (1 : Int) = kA := HK1.out
        obtain rfl : pA = sA := HN1.out
        cases oB with
        | none =>
          obtain rfl : (4 : Int) = kB := HK2.out
          go_wp2_with fail
          refine (E1.out _ (((hC15.alloc _).alloc _).alloc _)).mono ?_
          rintro e w14 ⟨rfl, hb16'⟩
          have hb16 := (((hb15.al _).al _).al _).th hb16'
          have hC16 := (((hC15.alloc _).alloc _).alloc _).below hb16'
          clear hb15 hC15 hb16'
          go_wp2_with fail
          refine (E2.out _ (HVA.out.below hb16)).mono ?_
          rintro e w15 ⟨rfl, hb17'⟩
          have hb17 := hb16.th hb17'
          have hC17 := hC16.below hb17'
          clear hb16 hC16 hb17'
          go_wp2_with fail
          refine (E3.out _ (HVB.out.below hb17)).mono ?_
          rintro e w16 ⟨rfl, hb18'⟩
          have hb18 := hb17.th hb18'
          have hC18 := hC17.below hb18'
          clear hb17 hC17 hb18'
          go_wp2_with fail
          refine (E4.out _ hC18).mono ?_
          rintro e w17 ⟨rfl, hb19'⟩
          have hb19 := hb18.th hb19'
          clear hb18 hC18 hb19'
          go_wp2_with fail
          refine (E5.out _ (HVA.out.below hb19)).mono ?_
          rintro e w18 ⟨rfl, hb20'⟩
          have hb20 := hb19.th hb20'
          clear hb19 hb20'
          go_wp2_with fail
          refine (E6.out _ (HVB.out.below hb20)).mono ?_
          rintro e w19 ⟨rfl, hb21'⟩
          have hb21 := hb20.th hb21'
          clear hb20 hb21'
          go_wp2
          go_ret
          exact ⟨rfl, hb21⟩
        | some pB =>
          obtain rfl : (1 : Int) = kB := HK2.out
          obtain rfl : pB = sB := HN2.out
          cases oC with
          | none =>
            obtain rfl : (4 : Int) = kC := HK3.out
            go_wp2_with fail
            refine (E1.out _ (((hC15.alloc _).alloc _).alloc _)).mono ?_
            rintro e w14 ⟨rfl, hb16'⟩
            have hb16 := (((hb15.al _).al _).al _).th hb16'
            have hC16 := (((hC15.alloc _).alloc _).alloc _).below hb16'
            clear hb15 hC15 hb16'
            go_wp2_with fail
            refine (E2.out _ (HVA.out.below hb16)).mono ?_
            rintro e w15 ⟨rfl, hb17'⟩
            have hb17 := hb16.th hb17'
            have hC17 := hC16.below hb17'
            clear hb16 hC16 hb17'
            go_wp2_with fail
            refine (E3.out _ (HVB.out.below hb17)).mono ?_
            rintro e w16 ⟨rfl, hb18'⟩
            have hb18 := hb17.th hb18'
            have hC18 := hC17.below hb18'
            clear hb17 hC17 hb18'
            go_wp2_with fail
            refine (E4.out _ hC18).mono ?_
            rintro e w17 ⟨rfl, hb19'⟩
            have hb19 := hb18.th hb19'
            clear hb18 hC18 hb19'
            go_wp2_with fail
            refine (E5.out _ (HVA.out.below hb19)).mono ?_
            rintro e w18 ⟨rfl, hb20'⟩
            have hb20 := hb19.th hb20'
            clear hb19 hb20'
            go_wp2_with fail
            refine (E6.out _ (HVB.out.below hb20)).mono ?_
            rintro e w19 ⟨rfl, hb21'⟩
            have hb21 := hb20.th hb21'
            clear hb20 hb21'
            go_wp2
            go_ret
            exact ⟨rfl, hb21⟩
          | some pC =>
            obtain rfl : (1 : Int) = kC := HK3.out
            obtain rfl : pC = sC := HN3.out
            obtain rfl := HSA.out _ _ _ rfl rfl rfl
            obtain ⟨bs1, bs2⟩ := HBC.out _ rfl
            go_wp2_with fail
            refine (E1.out _ (((hC15.alloc _).alloc _).alloc _)).mono ?_
            rintro e w14 ⟨rfl, hb16'⟩
            have hb16 := (((hb15.al _).al _).al _).th hb16'
            have hC16 := (((hC15.alloc _).alloc _).alloc _).below hb16'
            clear hb15 hC15 hb16'
            go_wp2_with fail
            refine (E2.out _ (HVA.out.below hb16)).mono ?_
            rintro e w15 ⟨rfl, hb17'⟩
            have hb17 := hb16.th hb17'
            have hC17 := hC16.below hb17'
            clear hb16 hC16 hb17'
            go_wp2_with fail
            refine (E3.out _ (HVB.out.below hb17)).mono ?_
            rintro e w16 ⟨rfl, hb18'⟩
            have hb18 := hb17.th hb18'
            have hC18 := hC17.below hb18'
            clear hb17 hC17 hb18'
            go_wp2_with fail
            refine (E4.out _ hC18).mono ?_
            rintro e w17 ⟨rfl, hb19'⟩
            have hb19 := hb18.th hb19'
            clear hb18 hC18 hb19'
            go_wp2_with fail
            refine (E5.out _ (HVA.out.below hb19)).mono ?_
            rintro e w18 ⟨rfl, hb20'⟩
            have hb20 := hb19.th hb20'
            clear hb19 hb20'
            go_wp2_with fail
            refine (E6.out _ (HVB.out.below hb20)).mono ?_
            rintro e w19 ⟨rfl, hb21'⟩
            have hb21 := hb20.th hb21'
            clear hb20 hb21'
            go_wp2
            go_ret
            exact ⟨rfl, hb21⟩
    · obtain rfl : M4 = M6 := by omega
      have hm2' : M4 < M5 := by omega
      clear hm2
      clear hx2
      cases oA with
      | none =>
        obtain rfl : (4 : Int) = kA := HK1.out
        go_wp2_with fail
        refine (E1.out _ (((hC15.alloc _).alloc _).alloc _)).mono ?_
        rintro e w14 ⟨rfl, hb16'⟩
        have hb16 := (((hb15.al _).al _).al _).th hb16'
        have hC16 := (((hC15.alloc _).alloc _).alloc _).below hb16'
        clear hb15 hC15 hb16'
        go_wp2_with fail
        refine (E2.out _ (HVA.out.below hb16)).mono ?_
        rintro e w15 ⟨rfl, hb17'⟩
        have hb17 := hb16.th hb17'
        have hC17 := hC16.below hb17'
        clear hb16 hC16 hb17'
        go_wp2_with fail
        refine (E3.out _ (HVB.out.below hb17)).mono ?_
        rintro e w16 ⟨rfl, hb18'⟩
        have hb18 := hb17.th hb18'
        have hC18 := hC17.below hb18'
        clear hb17 hC17 hb18'
        go_wp2_with fail
        refine (E4.out _ hC18).mono ?_
        rintro e w17 ⟨rfl, hb19'⟩
        have hb19 := hb18.th hb19'
        clear hb18 hC18 hb19'
        go_wp2_with fail
        refine (E5.out _ (HVA.out.below hb19)).mono ?_
        rintro e w18 ⟨rfl, hb20'⟩
        have hb20 := hb19.th hb20'
        clear hb19 hb20'
        go_wp2_with fail
        refine (E6.out _ (HVB.out.below hb20)).mono ?_
        rintro e w19 ⟨rfl, hb21'⟩
        have hb21 := hb20.th hb21'
        clear hb20 hb21'
        go_wp2
        go_ret
        exact ⟨rfl, hb21⟩
      | some pA =>
        obtain rfl : (1 : Int) = kA := HK1.out
        obtain rfl : pA = sA := HN1.out
        cases oB with
        | none =>
          obtain rfl : (4 : Int) = kB := HK2.out
          go_wp2_with fail
          refine (E1.out _ (((hC15.alloc _).alloc _).alloc _)).mono ?_
          rintro e w14 ⟨rfl, hb16'⟩
          have hb16 := (((hb15.al _).al _).al _).th hb16'
          have hC16 := (((hC15.alloc _).alloc _).alloc _).below hb16'
          clear hb15 hC15 hb16'
          go_wp2_with fail
          refine (E2.out _ (HVA.out.below hb16)).mono ?_
          rintro e w15 ⟨rfl, hb17'⟩
          have hb17 := hb16.th hb17'
          have hC17 := hC16.below hb17'
          clear hb16 hC16 hb17'
          go_wp2_with fail
          refine (E3.out _ (HVB.out.below hb17)).mono ?_
          rintro e w16 ⟨rfl, hb18'⟩
          have hb18 := hb17.th hb18'
          have hC18 := hC17.below hb18'
          clear hb17 hC17 hb18'
          go_wp2_with fail
          refine (E4.out _ hC18).mono ?_
          rintro e w17 ⟨rfl, hb19'⟩
          have hb19 := hb18.th hb19'
          clear hb18 hC18 hb19'
          go_wp2_with fail
          refine (E5.out _ (HVA.out.below hb19)).mono ?_
          rintro e w18 ⟨rfl, hb20'⟩
          have hb20 := hb19.th hb20'
          clear hb19 hb20'
          go_wp2_with fail
          refine (E6.out _ (HVB.out.below hb20)).mono ?_
          rintro e w19 ⟨rfl, hb21'⟩
          have hb21 := hb20.th hb21'
          clear hb20 hb21'
          go_wp2
          go_ret
          exact ⟨rfl, hb21⟩
        | some pB =>
          obtain rfl : (1 : Int) = kB := HK2.out
          obtain rfl : pB = sB := HN2.out
          cases oC with
          | none =>
            obtain rfl : (4 : Int) = kC := HK3.out
            go_wp2_with fail
            refine (E1.out _ (((hC15.alloc _).alloc _).alloc _)).mono ?_
            rintro e w14 ⟨rfl, hb16'⟩
            have hb16 := (((hb15.al _).al _).al _).th hb16'
            have hC16 := (((hC15.alloc _).alloc _).alloc _).below hb16'
            clear hb15 hC15 hb16'
            go_wp2_with fail
            refine (E2.out _ (HVA.out.below hb16)).mono ?_
            rintro e w15 ⟨rfl, hb17'⟩
            have hb17 := hb16.th hb17'
            have hC17 := hC16.below hb17'
            clear hb16 hC16 hb17'
            go_wp2_with fail
            refine (E3.out _ (HVB.out.below hb17)).mono ?_
            rintro e w16 ⟨rfl, hb18'⟩
            have hb18 := hb17.th hb18'
            have hC18 := hC17.below hb18'
            clear hb17 hC17 hb18'
            go_wp2_with fail
            refine (E4.out _ hC18).mono ?_
            rintro e w17 ⟨rfl, hb19'⟩
            have hb19 := hb18.th hb19'
            clear hb18 hC18 hb19'
            go_wp2_with fail
            refine (E5.out _ (HVA.out.below hb19)).mono ?_
            rintro e w18 ⟨rfl, hb20'⟩
            have hb20 := hb19.th hb20'
            clear hb19 hb20'
            go_wp2_with fail
            refine (E6.out _ (HVB.out.below hb20)).mono ?_
            rintro e w19 ⟨rfl, hb21'⟩
            have hb21 := hb20.th hb21'
            clear hb20 hb21'
            go_wp2
            go_ret
            exact ⟨rfl, hb21⟩
          | some pC =>
            obtain rfl : (1 : Int) = kC := HK3.out
            obtain rfl : pC = sC := HN3.out
            obtain rfl := HSA.out _ _ _ rfl rfl rfl
            obtain ⟨bs1, bs2⟩ := HBC.out _ rfl
            go_wp2_with fail
            refine (E1.out _ (((hC15.alloc _).alloc _).alloc _)).mono ?_
            rintro e w14 ⟨rfl, hb16'⟩
            have hb16 := (((hb15.al _).al _).al _).th hb16'
            have hC16 := (((hC15.alloc _).alloc _).alloc _).below hb16'
            clear hb15 hC15 hb16'
            go_wp2_with fail
            refine (E2.out _ (HVA.out.below hb16)).mono ?_
            rintro e w15 ⟨rfl, hb17'⟩
            have hb17 := hb16.th hb17'
            have hC17 := hC16.below hb17'
            clear hb16 hC16 hb17'
            go_wp2_with fail
            refine (E3.out _ (HVB.out.below hb17)).mono ?_
            rintro e w16 ⟨rfl, hb18'⟩
            have hb18 := hb17.th hb18'
            have hC18 := hC17.below hb18'
            clear hb17 hC17 hb18'
            go_wp2_with fail
            refine (E4.out _ hC18).mono ?_
            rintro e w17 ⟨rfl, hb19'⟩
            have hb19 := hb18.th hb19'
            clear hb18 hC18 hb19'
            go_wp2_with fail
            refine (E5.out _ (HVA.out.below hb19)).mono ?_
            rintro e w18 ⟨rfl, hb20'⟩
            have hb20 := hb19.th hb20'
            clear hb19 hb20'
            go_wp2_with fail
            refine (E6.out _ (HVB.out.below hb20)).mono ?_
            rintro e w19 ⟨rfl, hb21'⟩
            have hb21 := hb20.th hb21'
            clear hb20 hb21'
            go_wp2
            go_ret
            exact ⟨rfl, hb21⟩
end Go.Proofs.Ytpnnjmckjipacaa.listsParts
