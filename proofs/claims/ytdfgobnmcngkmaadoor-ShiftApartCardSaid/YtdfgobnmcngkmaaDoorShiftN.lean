/-
  shift: what leaves become, over seeds' trees: plain. Conditions: each theorem's own.
-/
import Derived.Test.YtdfgobnmcngkmaaDoorShiftL
namespace Go.Proofs.YtdfgobnmcngkmaaDoor
open Go.RowKit
set_option linter.unusedVariables false
set_option linter.unusedSimpArgs false

/-- A leaf of a seed's tree. -/
def GSeed (s : Sc) : Prop := (∃ k n v, s = litS k n v ∧ vr k n v = true) ∨ (∃ r, s = oneS r ∧ r.small) ∨ ∃ a b, s = areaS a b ∧ SmallA a b
theorem FT.leaves {d : Nat} {t : Tr} (h : FT d t) : LeafG GSeed t := by
  induction h with
  | lit d k n s h hn hs => exact .mk _ _ (fun _ _ => .inl ⟨k, n, s, rfl, h⟩) (fun t ht => by cases ht)
  | one d r h => exact .mk _ _ (fun _ _ => .inr (.inl ⟨r, rfl, h⟩)) (fun t ht => by cases ht)
  | area d a b h => exact .mk _ _ (fun _ _ => .inr (.inr ⟨a, b, rfl, h⟩)) (fun t ht => by cases ht)
  | un d k t hk ht ih => exact .mk _ _ (fun h _ => by cases h) (fun t ht => by obtain rfl := List.mem_singleton.1 ht; exact ih)
  | bin d op t t' hop ht ht' ih ih' => exact .mk _ _ (fun h _ => by cases h) (fun t ht => by
      simp only [List.mem_cons, List.not_mem_nil, or_false] at ht
      rcases ht with rfl | rfl
      · exact ih
      · exact ih')
  | call d f ts hf hn ht ih => exact .mk _ _ (fun _ h => absurd rfl h) ih
section
variable {G G' : Sc → Prop} {tn tn1 tn2 tn3 : Sc → Tr}
theorem LeafG.weak (h : ∀ s, G s → G' s) {t : Tr} (ht : LeafG G t) : LeafG G' t := by
  induction ht with
  | mk s l h1 hk ih => exact .mk s l (fun a b => h s (h1 a b)) ih
theorem node_or (s : Sc) (l : List Tr) : (l = [] ∧ s.k ≠ 8) ∨ (l ≠ [] ∨ s.k = 8) := by
  by_cases h : l = []
  · by_cases h8 : s.k = 8
    · exact .inr (.inr h8)
    · exact .inl ⟨h, h8⟩
  · exact .inr (.inl h)
theorem LeafG.map (h : ∀ s, G s → LeafG G' (tn s)) {t : Tr} (ht : LeafG G t) : LeafG G' (mapT tn t) := by
  induction ht with
  | mk s l h1 hk ih =>
    rcases node_or s l with ⟨rfl, h8⟩ | hn
    · rw [mapT_leaf h8]; exact h s (h1 rfl h8)
    · rw [mapT_node hn]
      refine .mk _ _ (fun e h8 => ?_) (fun t ht => ?_)
      · rcases hn with hn | hn
        · exact absurd (List.map_eq_nil_iff.1 e) hn
        · exact absurd hn h8
      · obtain ⟨u, hu, rfl⟩ := List.mem_map.1 ht
        exact ih u hu
theorem map_map_eq (h : ∀ s, G s → mapT tn2 (tn1 s) = tn3 s) {t : Tr} (ht : LeafG G t) : mapT tn2 (mapT tn1 t) = mapT tn3 t := by
  induction ht with
  | mk s l h1 hk ih =>
    rcases node_or s l with ⟨rfl, h8⟩ | hn
    · rw [mapT_leaf h8, mapT_leaf h8]; exact h s (h1 rfl h8)
    · rw [mapT_node hn, mapT_node hn, mapT_node (by
        rcases hn with hn | hn
        · exact .inl (fun e => hn (List.map_eq_nil_iff.1 e))
        · exact .inr hn), List.map_map]
      congr 1
      exact List.map_congr_left (fun t ht => ih t ht)
theorem map_self (h : ∀ s, G s → tn s = .mk s []) {t : Tr} (ht : LeafG G t) : mapT tn t = t := by
  induction ht with
  | mk s l h1 hk ih =>
    rcases node_or s l with ⟨rfl, h8⟩ | hn
    · rw [mapT_leaf h8]; exact h s (h1 rfl h8)
    · rw [mapT_node hn]
      congr 1
      rw [List.map_congr_left (g := id) (fun t ht => ih t ht), List.map_id]
theorem map_back (h : ∀ s, G s → mapT tn2 (tn1 s) = .mk s []) {t : Tr} (ht : LeafG G t) : mapT tn2 (mapT tn1 t) = t := by
  rw [map_map_eq (tn3 := fun s => .mk s []) h ht]
  exact map_self (fun _ _ => rfl) ht
theorem map_sizes (h : ∀ s, G s → sizeT (tn s) = 1) {t : Tr} (ht : LeafG G t) : sizeT (mapT tn t) = sizeT t := by
  induction ht with
  | mk s l h1 hk ih =>
    rcases node_or s l with ⟨rfl, h8⟩ | hn
    · rw [mapT_leaf h8, h s (h1 rfl h8)]; simp [sizeT, sizeL]
    · rw [mapT_node hn]
      simp only [sizeT]
      congr 1
      clear h1 hk hn
      induction l with
      | nil => rfl
      | cons u l ihl => simp only [List.map_cons, sizeL, ih u (List.mem_cons_self ..), ihl (fun t ht => ih t (List.mem_cons_of_mem _ ht))]
theorem rightL_iff {n : Nat} {l : List Tr} : rightL n l = true ↔ ∀ t ∈ l, rightT n t = true := by
  induction l with
  | nil => simp [rightL]
  | cons u l ih => simp [rightL, ih]
theorem map_right (h : ∀ s, G s → ∃ s', tn s = .mk s' [] ∧ kidsV s' 0 = true) : ∀ {t : Tr}, LeafG G t → ∀ n, rightT n t = true → rightT n (mapT tn t) = true := by
  intro t ht
  induction ht with
  | mk s l h1 hk ih =>
    intro n hr
    obtain ⟨n, rfl⟩ : ∃ m, n = m + 1 := by
      cases n with
      | zero => simp [rightT] at hr
      | succ n => exact ⟨n, rfl⟩
    rcases node_or s l with ⟨rfl, h8⟩ | hn
    · rw [mapT_leaf h8]
      obtain ⟨s', e, hk'⟩ := h s (h1 rfl h8)
      rw [e]
      simp [rightT, rightL, hk']
    · rw [mapT_node hn]
      simp only [rightT, Bool.and_eq_true] at hr ⊢
      refine ⟨by rw [List.length_map]; exact hr.1, rightL_iff.2 fun t ht => ?_⟩
      obtain ⟨u, hu, rfl⟩ := List.mem_map.1 ht
      exact ih u hu n (rightL_iff.1 hr.2 u hu)
end
theorem litS_k (k n : Int) (v : ByteArray) : (litS k n v).k = 1 := rfl
theorem kids_lit {k n : Int} {v : ByteArray} (h : vr k n v = true) : kidsV (litS k n v) 0 = true := by simp [kidsV, litS, h]
theorem kids_gone : kidsV goneS 0 = true := kids_lit (by unfold vr; decide)
theorem kids_one {r : Rf} (h : insV r.s r.c r.r = true) : kidsV (oneS r) 0 = true := by simp [kidsV, oneS, h]
theorem kids_area {a b : Rf} (h : insV a.s a.c a.r = true) (h' : insV b.s b.c b.r = true) (e : a.s = b.s) : kidsV (areaS a b) 0 = true := by
  have e' : (a.s == b.s) = true := by simpa using e
  simp [kidsV, areaS, h, h', e']
theorem GSeed.k8 {s : Sc} (h : GSeed s) : s.k ≠ 8 := by
  rcases h with ⟨k, n, v, rfl, _⟩ | ⟨r, rfl, _⟩ | ⟨a, b, rfl, _⟩
  · show (1 : Int) ≠ 8; decide
  · show (2 : Int) ≠ 8; decide
  · show (3 : Int) ≠ 8; decide
theorem rf0_ok : rf0.ok := ⟨⟨by decide, by decide⟩, by decide, by decide⟩
theorem rf0_near : rf0.near := ⟨⟨by decide, by decide⟩, ⟨by decide, by decide⟩, by decide, by decide⟩
theorem small_ok {r : Rf} (h : r.small) : r.ok := by obtain ⟨h1, h2, h3⟩ := h; unfold Rf.ok; omega
theorem small_near {r : Rf} (h : r.small) : r.near := by obtain ⟨h1, h2, h3⟩ := h; unfold Rf.near; omega
theorem smallA_b {a b : Rf} (h : SmallA a b) : (b.s = 0) ∧ (0 ≤ b.c ∧ b.c ≤ 4) ∧ 0 ≤ b.r ∧ b.r ≤ 5 := by
  obtain ⟨⟨h1, h2, h3⟩, ha, hb, h4, h5, -⟩ := h; omega
theorem seed_gl {s : Sc} (h : GSeed s) : Gl s := by
  rcases h with ⟨k, n, v, rfl, _⟩ | ⟨r, rfl, hr⟩ | ⟨a, b, rfl, hab⟩
  · exact ⟨rf0_ok, rf0_ok⟩
  · exact ⟨small_ok hr, rf0_ok⟩
  · exact ⟨small_ok hab.1, by have := smallA_b hab; show b.ok; unfold Rf.ok; omega⟩
theorem seed_gc {s : Sc} (h : GSeed s) : Gc s := by
  rcases h with ⟨k, n, v, rfl, _⟩ | ⟨r, rfl, hr⟩ | ⟨a, b, rfl, hab⟩
  · exact ⟨rf0_near, rf0_near⟩
  · exact ⟨small_near hr, rf0_near⟩
  · exact ⟨small_near hab.1, by have := smallA_b hab; show b.near; unfold Rf.near; omega⟩
/-! ### Seen -/
theorem seen_lit (fs fc fr k n : Int) (v : ByteArray) : seenS fs fc fr (litS k n v) = litS k n v := by unfold seenS; rw [if_neg (by rw [litS_k]; decide), if_neg (by rw [litS_k]; decide)]
theorem seen_one (fs fc fr : Int) (r : Rf) : seenS fs fc fr (oneS r) = oneS (turnR fs fc fr r) := rfl
theorem seen_area (fs fc fr : Int) (a b : Rf) : seenS fs fc fr (areaS a b) = areaS (turnR fs fc fr a) (turnR fs fc fr b) := rfl
theorem turn_zero (r : Rf) : turnR 0 0 0 r = r := by
  obtain ⟨s, c, r, x, y⟩ := r
  simp [turnR]
theorem seen_zero {s : Sc} (h : GSeed s) : seenS 0 0 0 s = s := by
  rcases h with ⟨k, n, v, rfl, _⟩ | ⟨r, rfl, hr⟩ | ⟨a, b, rfl, hab⟩
  · exact seen_lit ..
  · rw [seen_one, turn_zero]
  · rw [seen_area, turn_zero, turn_zero]
/-! ### Copy -/
theorem copy_lit (dc dr k n : Int) (v : ByteArray) : copyS dc dr (litS k n v) = litS k n v := by unfold copyS; rw [if_neg (by rw [litS_k]; decide), if_neg (by rw [litS_k]; decide)]
theorem copyS_two {dc dr : Int} {x : Sc} (h : x.k = 2) : copyS dc dr x = if insV (movR dc dr x.A).s (movR dc dr x.A).c (movR dc dr x.A).r then { x with A := movR dc dr x.A } else goneS := by
  unfold copyS; rw [if_neg (by rw [h]; decide), if_pos h]
theorem copyS_three {dc dr : Int} {x : Sc} (h : x.k = 3) : copyS dc dr x = if insV (movR dc dr x.B).s (movR dc dr x.B).c (movR dc dr x.B).r then (if insV (movR dc dr x.A).s (movR dc dr x.A).c (movR dc dr x.A).r then { x with A := movR dc dr x.A, B := movR dc dr x.B } else goneS) else goneS := by
  unfold copyS; rw [if_pos h]
theorem copy_one {dc dr : Int} {r : Rf} (h : insV (movR dc dr r).s (movR dc dr r).c (movR dc dr r).r = true) : copyS dc dr (oneS r) = oneS (movR dc dr r) := by
  rw [copyS_two (x := oneS r) rfl]; exact if_pos h
theorem copy_one' {dc dr : Int} {r : Rf} (h : ¬ insV (movR dc dr r).s (movR dc dr r).c (movR dc dr r).r = true) : copyS dc dr (oneS r) = goneS := by
  rw [copyS_two (x := oneS r) rfl]; exact if_neg h
theorem copy_area {dc dr : Int} {a b : Rf} (h : insV (movR dc dr a).s (movR dc dr a).c (movR dc dr a).r = true) (h' : insV (movR dc dr b).s (movR dc dr b).c (movR dc dr b).r = true) : copyS dc dr (areaS a b) = areaS (movR dc dr a) (movR dc dr b) := by
  rw [copyS_three (x := areaS a b) rfl]; exact (if_pos h').trans (if_pos h)
theorem copy_areaA {dc dr : Int} {a b : Rf} (h : ¬ insV (movR dc dr a).s (movR dc dr a).c (movR dc dr a).r = true) (h' : insV (movR dc dr b).s (movR dc dr b).c (movR dc dr b).r = true) : copyS dc dr (areaS a b) = goneS := by
  rw [copyS_three (x := areaS a b) rfl]; exact (if_pos h').trans (if_neg h)
theorem copy_areaB {dc dr : Int} {a b : Rf} (h' : ¬ insV (movR dc dr b).s (movR dc dr b).c (movR dc dr b).r = true) : copyS dc dr (areaS a b) = goneS := by
  rw [copyS_three (x := areaS a b) rfl]; exact if_neg h'
theorem mov_back (dc dr : Int) (r : Rf) : movR (-dc) (-dr) (movR dc dr r) = r := by
  obtain ⟨s, c, r, x, y⟩ := r
  cases x <;> cases y <;> simp [movR] <;> omega
theorem mov_zero (r : Rf) : movR 0 0 r = r := by
  obtain ⟨s, c, r, x, y⟩ := r
  simp [movR]
theorem mov_in {dc dr : Int} {r : Rf} (hs : 0 ≤ r.s ∧ r.s ≤ 1) (hc : 0 ≤ r.c ∧ r.c ≤ 4) (hr : 0 ≤ r.r ∧ r.r ≤ 5) (hd : 0 ≤ dc ∧ dc ≤ 7) (hd' : 0 ≤ dr ∧ dr ≤ 31) : insV (movR dc dr r).s (movR dc dr r).c (movR dc dr r).r = true := by
  obtain ⟨s, c, r, x, y⟩ := r
  simp only at hs hc hr
  cases x <;> cases y <;> simp only [movR, insV, Bool.false_eq_true, if_false, if_true, Bool.and_eq_true, decide_eq_true_eq] <;> omega
theorem small_in {r : Rf} (h : r.small) {dc dr : Int} (hd : 0 ≤ dc ∧ dc ≤ 7) (hd' : 0 ≤ dr ∧ dr ≤ 31) : insV (movR dc dr r).s (movR dc dr r).c (movR dc dr r).r = true := mov_in h.1 ⟨h.2.1.1, by have := h.2.1.2; omega⟩ ⟨h.2.2.1, by have := h.2.2.2; omega⟩ hd hd'
theorem smallB_in {a b : Rf} (h : SmallA a b) {dc dr : Int} (hd : 0 ≤ dc ∧ dc ≤ 7) (hd' : 0 ≤ dr ∧ dr ≤ 31) : insV (movR dc dr b).s (movR dc dr b).c (movR dc dr b).r = true := by
  have := smallA_b h
  exact mov_in (by omega) this.2.1 this.2.2 hd hd'
theorem ins_of {r : Rf} (hs : 0 ≤ r.s ∧ r.s ≤ 1) (hc : 0 ≤ r.c ∧ r.c ≤ 4) (hr : 0 ≤ r.r ∧ r.r ≤ 5) : insV r.s r.c r.r = true := by
  simp only [insV, Bool.and_eq_true, decide_eq_true_eq]; omega
theorem smalls_in {r : Rf} (h : r.small) : insV r.s r.c r.r = true := by have e := small_in h (dc := 0) (dr := 0) (by omega) (by omega); rwa [mov_zero] at e
theorem smallsB_in {a b : Rf} (h : SmallA a b) : insV b.s b.c b.r = true := by have e := smallB_in h (dc := 0) (dr := 0) (by omega) (by omega); rwa [mov_zero] at e
/-- What was copied near. -/
def GCopied (s : Sc) : Prop := (∃ k n v, s = litS k n v) ∨ (∃ r, s = oneS r ∧ r.near) ∨ ∃ a b, s = areaS a b ∧ a.near ∧ b.near
theorem ins_near {r : Rf} (h : insV r.s r.c r.r = true) : r.near := by
  simp only [insV, Bool.and_eq_true, decide_eq_true_eq] at h; unfold Rf.near; omega
theorem copied_gc {s : Sc} {dc dr : Int} (h : GSeed s) (hd : 0 ≤ dc ∧ dc ≤ 7) (hd' : 0 ≤ dr ∧ dr ≤ 31) : Gc (copyS dc dr s) := by
  rcases h with ⟨k, n, v, rfl, _⟩ | ⟨r, rfl, hr⟩ | ⟨a, b, rfl, hab⟩
  · rw [copy_lit]; exact ⟨rf0_near, rf0_near⟩
  · rw [copy_one (small_in hr hd hd')]; exact ⟨ins_near (small_in hr hd hd'), rf0_near⟩
  · rw [copy_area (small_in hab.1 hd hd') (smallB_in hab hd hd')]; exact ⟨ins_near (small_in hab.1 hd hd'), ins_near (smallB_in hab hd hd')⟩
theorem copied_back {s : Sc} {dc dr : Int} (h : GSeed s) (hd : 0 ≤ dc ∧ dc ≤ 7) (hd' : 0 ≤ dr ∧ dr ≤ 31) : copyS (-dc) (-dr) (copyS dc dr s) = s ∧ (copyS dc dr s).k ≠ 8 := by
  rcases h with ⟨k, n, v, rfl, _⟩ | ⟨r, rfl, hr⟩ | ⟨a, b, rfl, hab⟩
  · rw [copy_lit, copy_lit]; exact ⟨rfl, by rw [litS_k]; decide⟩
  · rw [copy_one (small_in hr hd hd'), copy_one (by rw [mov_back]; exact smalls_in hr), mov_back]; exact ⟨rfl, by show (2 : Int) ≠ 8; decide⟩
  · rw [copy_area (small_in hab.1 hd hd') (smallB_in hab hd hd'), copy_area (by rw [mov_back]; exact smalls_in hab.1) (by rw [mov_back]; exact smallsB_in hab), mov_back, mov_back]; exact ⟨rfl, by show (3 : Int) ≠ 8; decide⟩
theorem turn_mov (dc dr : Int) (r : Rf) : turnR 0 (5 + dc) (5 + dr) (movR dc dr r) = turnR 0 5 5 r := by
  obtain ⟨s, c, r, x, y⟩ := r
  cases x <;> cases y <;> simp [movR, turnR] <;> omega
theorem copied_seen {s : Sc} {dc dr : Int} (h : GSeed s) (hd : 0 ≤ dc ∧ dc ≤ 7) (hd' : 0 ≤ dr ∧ dr ≤ 31) : seenS 0 (5 + dc) (5 + dr) (copyS dc dr s) = seenS 0 5 5 s := by
  rcases h with ⟨k, n, v, rfl, _⟩ | ⟨r, rfl, hr⟩ | ⟨a, b, rfl, hab⟩
  · rw [copy_lit, seen_lit, seen_lit]
  · rw [copy_one (small_in hr hd hd'), seen_one, seen_one, turn_mov]
  · rw [copy_area (small_in hab.1 hd hd') (smallB_in hab hd hd'), seen_area, seen_area, turn_mov, turn_mov]
theorem copy_zero {s : Sc} (h : GSeed s) : copyS 0 0 s = s := by
  rcases h with ⟨k, n, v, rfl, _⟩ | ⟨r, rfl, hr⟩ | ⟨a, b, rfl, hab⟩
  · exact copy_lit ..
  · rw [copy_one (by rw [mov_zero]; exact smalls_in hr), mov_zero]
  · rw [copy_area (by rw [mov_zero]; exact smalls_in hab.1) (by rw [mov_zero]; exact smallsB_in hab), mov_zero, mov_zero]
theorem mov_s (dc dr : Int) (r : Rf) : (movR dc dr r).s = r.s := rfl
theorem copied_right {s : Sc} {dc dr : Int} (h : GSeed s) : kidsV (copyS dc dr s) 0 = true := by
  rcases h with ⟨k, n, v, rfl, hv⟩ | ⟨r, rfl, hr⟩ | ⟨a, b, rfl, hab⟩
  · rw [copy_lit]; exact kids_lit hv
  · by_cases hi : insV (movR dc dr r).s (movR dc dr r).c (movR dc dr r).r = true
    · rw [copy_one hi]; exact kids_one hi
    · rw [copy_one' hi]; exact kids_gone
  · by_cases hb : insV (movR dc dr b).s (movR dc dr b).c (movR dc dr b).r = true
    · by_cases ha : insV (movR dc dr a).s (movR dc dr a).c (movR dc dr a).r = true
      · rw [copy_area ha hb]; exact kids_area ha hb (by rw [mov_s, mov_s, hab.2.1, hab.2.2.1])
      · rw [copy_areaA ha hb]; exact kids_gone
    · rw [copy_areaB hb]; exact kids_gone
/-! ### Edits -/
theorem leaf_lit (s : Int) (c d : Bool) (a k n : Int) (v : ByteArray) : leafS s c d a (litS k n v) = litS k n v := by
  unfold leafS
  rw [leafV_oth (n := (litS k n v).fl none 0 0) (show (1 : Int) ≠ 2 by decide) (fun h => absurd (show (1 : Int) = 3 from h.1) (by decide))]
  rfl
theorem leaf_oneS (s : Int) (c d : Bool) (a : Int) (r : Rf) : leafS s c d a (oneS r) = if celB s c d a r.s r.c r.r then oneS ⟨r.s, celC s c d a r.s r.c, celR s c d a r.s r.r, r.x, r.y⟩ else goneS := by
  unfold leafS
  rw [leafV_one (n := (oneS r).fl none 0 0) rfl]
  show Fl.sc (if celB s c d a r.s r.c r.r then _ else _) = _
  cases celB s c d a r.s r.c r.r <;> rfl
theorem leaf_farS (s : Int) (c d : Bool) (a : Int) {x y : Rf} (h : x.s ≠ s) : leafS s c d a (areaS x y) = areaS x y := by
  unfold leafS
  rw [leafV_oth (n := (areaS x y).fl none 0 0) (show (3 : Int) ≠ 2 by decide) (fun h' => h h'.2)]
  rfl
theorem leaf_apart {s : Sc} (h : GSeed s) (c d : Bool) (a : Int) : leafS 2 c d a s = s := by
  rcases h with ⟨k, n, v, rfl, hv⟩ | ⟨r, rfl, hr⟩ | ⟨x, y, rfl, hab⟩
  · exact leaf_lit ..
  · have hs : r.s ≠ 2 := by have := hr.1; omega
    rw [leaf_oneS]
    simp [celB, celC, celR, hs]
  · exact leaf_farS _ _ _ _ (by have := hab.2.1; omega)
theorem leaf_nearS (s : Int) (c d : Bool) (a : Int) {x y : Rf} (h : x.s = s) (hx : x.c ≤ y.c ∧ x.r ≤ y.r) : leafS s c d a (areaS x y) =
    (let p := arP c x; let q := arP c y; let most := arM c
     if spB d (oneB d a p most) (oneB d a q most) (oneV d a p) (oneV d a q) p q most then
      (let X := spX d (oneB d a p most) (oneB d a q most) (oneV d a p) p q
       let Y := spY d (oneB d a p most) (oneB d a q most) (oneV d a q) p q most
       if c then areaS { x with c := X } { y with c := Y } else areaS { x with r := X } { y with r := Y }) else goneS) := by
  unfold leafS
  rw [leafV_area (n := (areaS x y).fl none 0 0) (show (3 : Int) ≠ 2 by decide) ⟨rfl, h⟩]
  have hq : ¬ arP c y < arP c x := by cases c <;> simp [arP] <;> omega
  have e1 : arLo (arP c x) (arP c y) = arP c x := if_neg hq
  have e2 : arHi (arP c x) (arP c y) = arP c y := if_neg hq
  show Fl.sc (areaV ((areaS x y).fl none 0 0) c (decide (arP c y < arP c x)) (spX d (oneB d a (arLo (arP c x) (arP c y)) (arM c)) (oneB d a (arHi (arP c x) (arP c y)) (arM c)) (oneV d a (arLo (arP c x) (arP c y))) (arLo (arP c x) (arP c y)) (arHi (arP c x) (arP c y)))
    (spY d (oneB d a (arLo (arP c x) (arP c y)) (arM c)) (oneB d a (arHi (arP c x) (arP c y)) (arM c)) (oneV d a (arHi (arP c x) (arP c y))) (arLo (arP c x) (arP c y)) (arHi (arP c x) (arP c y)) (arM c))
    (spB d (oneB d a (arLo (arP c x) (arP c y)) (arM c)) (oneB d a (arHi (arP c x) (arP c y)) (arM c)) (oneV d a (arLo (arP c x) (arP c y))) (oneV d a (arHi (arP c x) (arP c y))) (arLo (arP c x) (arP c y)) (arHi (arP c x) (arP c y)) (arM c))) = _
  rw [e1, e2, decide_eq_false hq]
  dsimp only
  cases spB d (oneB d a (arP c x) (arM c)) (oneB d a (arP c y) (arM c)) (oneV d a (arP c x)) (oneV d a (arP c y)) (arP c x) (arP c y) (arM c)
  · rfl
  · cases c <;> rfl
theorem one_ins {a p most : Int} (h : 0 ≤ p ∧ p ≤ 5) (hm : 26 ≤ most) : oneB false a p most = true ∧ oneV false a p = (if p < a then p else p + 1) := by
  by_cases h1 : p < a
  · simp [oneB, oneV, h1]
  · simp [oneB, oneV, h1]; omega
theorem one_back {a p most : Int} : oneB true a (if p < a then p else p + 1) most = true ∧ oneV true a (if p < a then p else p + 1) = p := by
  by_cases h1 : p < a
  · simp [oneB, oneV, h1]
  · have h2 : ¬ p + 1 < a := by omega
    have h3 : a < p + 1 := by omega
    simp [oneB, oneV, h1, h2, h3]
theorem sp_both {d : Bool} {x y a b most : Int} (h : x ≤ y) : spB d true true x y a b most = true ∧ spX d true true x a b = x ∧ spY d true true y a b most = y := by
  simp [spB, spX, spY, spC, h]
theorem one_mono {a p q : Int} (h : p ≤ q) : (if p < a then p else p + 1) ≤ (if q < a then q else q + 1) := by split <;> split <;> omega
theorem arM_26 (c : Bool) : 26 ≤ arM c := by cases c <;> simp [arM]
def putP (c : Bool) (x : Rf) (v : Int) : Rf := if c then { x with c := v } else { x with r := v }
theorem putP_self (c : Bool) (x : Rf) (v : Int) : putP c (putP c x v) (arP c x) = x := by
  obtain ⟨s, c', r, a, b⟩ := x
  cases c <;> rfl
theorem putP_s (c : Bool) (x : Rf) (v : Int) : (putP c x v).s = x.s := by cases c <;> rfl
theorem arP_put (c : Bool) (x : Rf) (v : Int) : arP c (putP c x v) = v := by cases c <;> rfl
theorem leaf_nearP (s : Int) (c d : Bool) (a : Int) {x y : Rf} (h : x.s = s) (hx : x.c ≤ y.c ∧ x.r ≤ y.r) : leafS s c d a (areaS x y) =
     (if spB d (oneB d a (arP c x) (arM c)) (oneB d a (arP c y) (arM c)) (oneV d a (arP c x)) (oneV d a (arP c y)) (arP c x) (arP c y) (arM c) then
        areaS (putP c x (spX d (oneB d a (arP c x) (arM c)) (oneB d a (arP c y) (arM c)) (oneV d a (arP c x)) (arP c x) (arP c y))) (putP c y (spY d (oneB d a (arP c x) (arM c)) (oneB d a (arP c y) (arM c)) (oneV d a (arP c y)) (arP c x) (arP c y) (arM c))) else goneS) := by
  rw [leaf_nearS s c d a h hx]
  dsimp only
  cases c <;> rfl
theorem small_arP {x : Rf} (h : x.small) (c : Bool) : 0 ≤ arP c x ∧ arP c x ≤ 5 := by obtain ⟨h1, h2, h3⟩ := h; cases c <;> simp [arP] <;> omega
theorem smallA_arP {x y : Rf} (h : SmallA x y) (c : Bool) : (0 ≤ arP c y ∧ arP c y ≤ 5) ∧ arP c x ≤ arP c y := by
  have h1 := smallA_b h
  obtain ⟨hs, ha, hb, h4, h5, -⟩ := h
  cases c <;> simp [arP] <;> omega
theorem smallA_le {x y : Rf} (h : SmallA x y) : x.c ≤ y.c ∧ x.r ≤ y.r := by obtain ⟨hs, ha, hb, h4, h5, -⟩ := h; omega
theorem ins_area {s a : Int} {c : Bool} {x y : Rf} (h : x.s = s) (hx : SmallA x y) : leafS s c false a (areaS x y) = areaS (putP c x (if arP c x < a then arP c x else arP c x + 1)) (putP c y (if arP c y < a then arP c y else arP c y + 1)) := by
  rw [leaf_nearP s c false a h (smallA_le hx)]
  obtain ⟨b1, v1⟩ := one_ins (a := a) (small_arP hx.1 c) (arM_26 c)
  obtain ⟨b2, v2⟩ := one_ins (a := a) (smallA_arP hx c).1 (arM_26 c)
  rw [b1, b2, v1, v2]
  obtain ⟨h1, h2, h3⟩ := sp_both (d := false) (a := arP c x) (b := arP c y) (most := arM c) (one_mono (a := a) (smallA_arP hx c).2)
  rw [h1, h2, h3, if_pos rfl]
theorem put_le {c : Bool} {x y : Rf} {v w : Int} (h : x.c ≤ y.c ∧ x.r ≤ y.r) (hv : v ≤ w) : (putP c x v).c ≤ (putP c y w).c ∧ (putP c x v).r ≤ (putP c y w).r := by
  obtain ⟨s, c', r, a, b⟩ := x
  obtain ⟨s', c'', r', a', b'⟩ := y
  cases c <;> simp [putP] at h ⊢ <;> omega
theorem back_area {s a : Int} {c : Bool} {x y : Rf} (h : x.s = s) (hx : SmallA x y) : leafS s c true a (areaS (putP c x (if arP c x < a then arP c x else arP c x + 1)) (putP c y (if arP c y < a then arP c y else arP c y + 1))) = areaS x y := by
  rw [leaf_nearP s c true a (by rw [putP_s]; exact h) (put_le (smallA_le hx) (one_mono (smallA_arP hx c).2)), arP_put, arP_put]
  obtain ⟨b1, v1⟩ := one_back (a := a) (p := arP c x) (most := arM c)
  obtain ⟨b2, v2⟩ := one_back (a := a) (p := arP c y) (most := arM c)
  rw [b1, b2, v1, v2]
  obtain ⟨h1, h2, h3⟩ := sp_both (d := true) (x := arP c x) (y := arP c y) (a := (if arP c x < a then arP c x else arP c x + 1)) (b := (if arP c y < a then arP c y else arP c y + 1)) (most := arM c) (smallA_arP hx c).2
  rw [h1, h2, h3, if_pos rfl, putP_self, putP_self]
theorem ins_one {s a : Int} {c : Bool} {r : Rf} (h : r.s = s) (hr : r.small) : leafS s c false a (oneS r) = oneS (putP c r (if arP c r < a then arP c r else arP c r + 1)) := by
  obtain ⟨s', c', r', x, y⟩ := r
  subst h
  obtain ⟨h1, h2, h3⟩ := hr
  simp only at h1 h2 h3
  rw [leaf_oneS]
  cases c
  · obtain ⟨b1, v1⟩ := one_ins (a := a) (p := r') (most := 99) (by omega) (by omega)
    simp [celB, celC, celR, b1, v1, putP, arP]
  · obtain ⟨b1, v1⟩ := one_ins (a := a) (p := c') (most := 26) (by omega) (by omega)
    simp [celB, celC, celR, b1, v1, putP, arP]
theorem back_one {s a : Int} {c : Bool} {r : Rf} (h : r.s = s) : leafS s c true a (oneS (putP c r (if arP c r < a then arP c r else arP c r + 1))) = oneS r := by
  obtain ⟨s', c', r', x, y⟩ := r
  subst h
  rw [leaf_oneS]
  cases c
  · obtain ⟨b1, v1⟩ := one_back (a := a) (p := r') (most := 99)
    simp [celB, celC, celR, b1, v1, putP, arP]
  · obtain ⟨b1, v1⟩ := one_back (a := a) (p := c') (most := 26)
    simp [celB, celC, celR, b1, v1, putP, arP]
theorem far_one {s a : Int} {c d : Bool} {r : Rf} (h : r.s ≠ s) : leafS s c d a (oneS r) = oneS r := by
  rw [leaf_oneS]
  simp [celB, celC, celR, h]
/-- What came and went again. -/
theorem edit_back {x : Sc} (hx : GSeed x) (s a : Int) (c : Bool) : leafS s c true a (leafS s c false a x) = x ∧ (leafS s c false a x).k ≠ 8 := by
  rcases hx with ⟨k, n, v, rfl, hv⟩ | ⟨r, rfl, hr⟩ | ⟨p, q, rfl, hab⟩
  · rw [leaf_lit, leaf_lit]; exact ⟨rfl, by rw [litS_k]; decide⟩
  · by_cases h : r.s = s
    · rw [ins_one h hr, back_one h]; exact ⟨rfl, by show (2 : Int) ≠ 8; decide⟩
    · rw [far_one h, far_one h]; exact ⟨rfl, by show (2 : Int) ≠ 8; decide⟩
  · by_cases h : p.s = s
    · rw [ins_area h hab, back_area h hab]; exact ⟨rfl, by show (3 : Int) ≠ 8; decide⟩
    · rw [leaf_farS _ _ _ _ h, leaf_farS _ _ _ _ h]; exact ⟨rfl, by show (3 : Int) ≠ 8; decide⟩
theorem put_ok {c : Bool} {x : Rf} {v : Int} (h : x.ok) (hv : 0 ≤ v ∧ v ≤ 1000) : (putP c x v).ok := by
  obtain ⟨s', c', r', a, b⟩ := x
  obtain ⟨h1, h2⟩ := h
  simp only at h1 h2
  cases c <;> simp only [putP, Rf.ok, Bool.false_eq_true, if_false, if_true] <;> omega
theorem ins_v {a p : Int} (h : 0 ≤ p ∧ p ≤ 5) : 0 ≤ (if p < a then p else p + 1) ∧ (if p < a then p else p + 1) ≤ 1000 := by split <;> omega
theorem edit_gl {x : Sc} (hx : GSeed x) (s a : Int) (c : Bool) : Gl (leafS s c false a x) := by
  have h0 := seed_gl hx
  rcases hx with ⟨k, n, v, rfl, hv⟩ | ⟨r, rfl, hr⟩ | ⟨p, q, rfl, hab⟩
  · rw [leaf_lit]; exact h0
  · by_cases h : r.s = s
    · rw [ins_one h hr]; exact ⟨put_ok (small_ok hr) (ins_v (small_arP hr c)), rf0_ok⟩
    · rw [far_one h]; exact h0
  · by_cases h : p.s = s
    · rw [ins_area h hab]; exact ⟨put_ok h0.1 (ins_v (small_arP hab.1 c)), put_ok h0.2 (ins_v (smallA_arP hab c).1)⟩
    · rw [leaf_farS _ _ _ _ h]; exact h0
theorem del_num {a p q most : Int} (ha : 0 ≤ a) (hp : 0 ≤ p ∧ p ≤ q) (hq : q ≤ 5) (hm : 26 ≤ most) (hz : spB true (oneB true a p most) (oneB true a q most) (oneV true a p) (oneV true a q) p q most = true) :
    (0 ≤ spX true (oneB true a p most) (oneB true a q most) (oneV true a p) p q ∧ spX true (oneB true a p most) (oneB true a q most) (oneV true a p) p q ≤ 5) ∧
    0 ≤ spY true (oneB true a p most) (oneB true a q most) (oneV true a q) p q most ∧ spY true (oneB true a p most) (oneB true a q most) (oneV true a q) p q most ≤ 5 := by
  by_cases h1 : p < a <;> by_cases h2 : q < a <;> by_cases h3 : a < p <;> by_cases h4 : a < q <;> by_cases h5 : p = q <;>
    simp [spB, spX, spY, spC, oneB, oneV, h1, h2, h3, h4, h5] at hz ⊢ <;> omega
theorem put_in {c : Bool} {x : Rf} {v : Int} (hs : 0 ≤ x.s ∧ x.s ≤ 1) (hc : 0 ≤ x.c ∧ x.c ≤ 5) (hr : 0 ≤ x.r ∧ x.r ≤ 5) (hv : 0 ≤ v ∧ v ≤ 5) : insV (putP c x v).s (putP c x v).c (putP c x v).r = true := by
  obtain ⟨s', c', r', a, b⟩ := x
  simp only at hs hc hr
  cases c <;> simp only [putP, insV, Bool.false_eq_true, if_false, if_true, Bool.and_eq_true, decide_eq_true_eq] <;> omega
/-- What moved may be. -/
theorem edit_right {x : Sc} (hx : GSeed x) (s : Int) {a : Int} (ha : 0 ≤ a) (c : Bool) : kidsV (leafS s c true a x) 0 = true := by
  rcases hx with ⟨k, n, v, rfl, hv⟩ | ⟨r, rfl, hr⟩ | ⟨p, q, rfl, hab⟩
  · rw [leaf_lit]; exact kids_lit hv
  · by_cases h : r.s = s
    · rw [leaf_oneS]
      obtain ⟨s', c', r', x, y⟩ := r
      obtain ⟨h1, h2, h3⟩ := hr
      simp only at h h1 h2 h3
      subst h
      split
      · rename_i hz
        refine kids_one ?_
        simp only [insV, Bool.and_eq_true, decide_eq_true_eq]
        cases c
        · by_cases hb : r' < a <;> simp [celB, celC, celR, oneB, oneV, hb] at hz ⊢ <;> omega
        · by_cases hb : c' < a <;> simp [celB, celC, celR, oneB, oneV, hb] at hz ⊢ <;> omega
      · exact kids_gone
    · rw [far_one h]; exact kids_one (smalls_in hr)
  · by_cases h : p.s = s
    · rw [leaf_nearP s c true a h (smallA_le hab)]
      split
      · rename_i hz
        have hp := small_arP hab.1 c
        have hq := smallA_arP hab c
        obtain ⟨hX, hY⟩ := del_num ha ⟨hp.1, hq.2⟩ hq.1.2 (arM_26 c) hz
        have hb := smallA_b hab
        have h1 := hab.1
        obtain ⟨g1, g2, g3⟩ := h1
        refine kids_area (put_in g1 (by omega) (by omega) hX) (put_in (by omega) (by omega) (by omega) hY) ?_
        rw [putP_s, putP_s, hab.2.1, hab.2.2.1]
      · exact kids_gone
    · rw [leaf_farS _ _ _ _ h]; exact kids_area (smalls_in hab.1) (smallsB_in hab) (by rw [hab.2.1, hab.2.2.1])
end Go.Proofs.YtdfgobnmcngkmaaDoor
