/-
  A region that draws its order, whose operations write nothing that stood in W: it may be walked in the order of its text, what each yields said by a property that lasts. Conditions: each theorem's own.
-/
import Derived.Test.YtffogjhjgmohiaaDoorSettled
namespace Go.Proofs.YtffogjhjgmohiaaDoor
open Go.RowKit
set_option linter.unusedVariables false

/-- A fact that no tactic looks into till it is opened. -/
def Closed (p : Prop) : Prop := p
theorem Closed.out {p : Prop} (h : Closed p) : p := h
def Sig := Tmp → Value → World → Prop
def Sig.put (σ : Sig) (dst : Option Tmp) (Φ : Value → World → Prop) : Sig := match dst with
  | none => σ
  | some d => fun t => if t = d then Φ else σ t
def rd (a : Act) (t : Tmp) : Value := a.tmps.getD t undef
def Sat (σ : Sig) (D : List Tmp) (a : Act) (w : World) : Prop := ∀ t ∈ D, σ t (rd a t) w
/-- What stood is as it was. -/
def Ext (w w' : World) : Prop := Below w.heap.size w w'
theorem Ext.trans {a b c : World} (h : Ext a b) (k : Ext b c) : Ext a c := Below.trans h (Below.mono k h.size)
theorem ext_cell {W : World} {b o : Nat} {v : Value} (hb : b < W.heap.size) (h : W.cell? ⟨b, o, none⟩ = some v) : ∀ w, Ext W w → w.cell? ⟨b, o, none⟩ = some v := fun w hE => by
  have := Below.cell (p := ⟨b, o, none⟩) hE hb
  rw [this, h]
theorem ext_frozen {W : World} {b o : Nat} {v : Bool} (hb : b < W.heap.size) (h : W.frozen? ⟨b, o, none⟩ = v) : ∀ w, Ext W w → w.frozen? ⟨b, o, none⟩ = v := fun w hE => by
  have := Below.frozen (p := ⟨b, o, none⟩) hE hb
  rw [this, h]
theorem Ext.refl (w : World) : Ext w w := Below.refl _ _
def Lasts (Φ : Value → World → Prop) : Prop := ∀ v w w', Φ v w → Ext w w' → Φ v w'
def Is (v : Value) : Value → World → Prop := fun u _ => u = v
theorem Is.lasts (v : Value) : Lasts (Is v) := fun _ _ _ h _ => h
/-- Who is listed gets a block that is the world's newest. -/
def Newest (D : List Tmp) (o : Oper) (w : World) (v : Value) (w' : World) : Prop := ∀ d, o.dst = some d → d ∈ D → v = .pointer (some ⟨w.heap.size, 0, none⟩) ∧ w.heap.size < w'.heap.size
def Outcome (P : Program) (D : List Tmp) (o : Oper) (a : Act) (w : World) (Φ : Value → World → Prop) : Prop :=
  (∃ v w', (execOp a.eval o).run P w = .ok (.value v) w' ∧ Ext w w' ∧ Φ v w' ∧ Newest D o w v w') ∨
  (∃ f args w', (execOp a.eval o).run P w = .ok (.enter f args) w' ∧ Ext w w' ∧ (∀ d, o.dst = some d → d ∉ D) ∧ Calls P f args w' fun e w'' => ∃ v, e = .returned v ∧ Ext w' w'' ∧ Φ v w'')
/-- Those of D that hold pointers to new blocks hold unlike ones. -/
def Apt (D : List Tmp) (W : World) (a : Act) (w : World) : Prop :=
  (∀ d ∈ D, ∀ g, rd a d = .pointer (some ⟨g, 0, none⟩) → g < w.heap.size) ∧
  ∀ d ∈ D, ∀ d' ∈ D, d ≠ d' → ∀ g, W.heap.size ≤ g → rd a d = .pointer (some ⟨g, 0, none⟩) → rd a d' ≠ .pointer (some ⟨g, 0, none⟩)
/-- The shape of the frame, and the world that it began in. -/
structure Base where
  n : Nat
  ds : List Deferred
  W : World
  D : List Tmp
def Base.ok (B : Base) (a : Act) (w : World) : Prop := a.tmps.size = B.n ∧ a.defers = B.ds ∧ Ext B.W w ∧ Apt B.D B.W a w
def Claim (P : Program) (ops : Array Oper) (B : Base) (o : Oper) (σ : Sig) (Φ : Value → World → Prop) : Prop :=
  (∀ d, o.dst = some d → d < B.n) ∧ Lasts Φ ∧
  ((∀ a w, B.ok a w → Sat σ (o.looksAt ops) a w → Region.wanted o (yielded ops a.tmps) = true ∧ Outcome P B.D o a w Φ) ∨
   (∀ a w, B.ok a w → Sat σ (o.looksAt ops) a w → Region.wanted o (yielded ops a.tmps) = false ∧ Φ undef w))

theorem apt_put {D : List Tmp} {W : World} {a : Act} {w w' : World} {dst : Option Tmp} {v : Value} (h : Apt D W a w) (hs : w.heap.size ≤ w'.heap.size) (hlt : ∀ d, dst = some d → d < a.tmps.size)
    (hv : ∀ d, dst = some d → d ∈ D → (v = .pointer (some ⟨w.heap.size, 0, none⟩) ∧ w.heap.size < w'.heap.size) ∨ ∀ g, v ≠ .pointer (some ⟨g, 0, none⟩)) : Apt D W (a.put dst v) w' := by
  cases dst with
  | none => exact ⟨fun d hd g hg => Nat.lt_of_lt_of_le (h.1 d hd g hg) hs, h.2⟩
  | some e =>
    have hr : ∀ t, rd (a.put (some e) v) t = if t = e then v else rd a t := by
      intro t
      show (a.tmps.setIfInBounds e v).getD t undef = _
      rw [Array.getD_eq_getD_getElem?, Array.getElem?_setIfInBounds]
      by_cases hte : t = e
      · subst hte; simp [hlt t rfl]
      · rw [if_neg (fun x => hte x.symm), if_neg hte, rd, Array.getD_eq_getD_getElem?]
    refine ⟨fun d hd g hg => ?_, fun d hd d' hd' hne g hW hg => ?_⟩
    · rw [hr] at hg
      by_cases hde : d = e
      · subst hde
        rw [if_pos rfl] at hg
        rcases hv d rfl hd with ⟨h1, h2⟩ | h1
        · rw [h1] at hg; injection hg with hg; injection hg with hg; injection hg with hg; omega
        · exact absurd hg (h1 g)
      · rw [if_neg hde] at hg; exact Nat.lt_of_lt_of_le (h.1 d hd g hg) hs
    · rw [hr] at hg ⊢
      by_cases hde : d = e
      · subst hde
        rw [if_pos rfl] at hg
        rw [if_neg (fun x => hne x.symm)]
        rcases hv d rfl hd with ⟨h1, h2⟩ | h1
        · intro hg'
          have h3 := h.1 d' hd' g hg'
          rw [h1] at hg; injection hg with hg; injection hg with hg; injection hg with hg; omega
        · exact absurd hg (h1 g)
      · rw [if_neg hde] at hg
        by_cases hde' : d' = e
        · subst hde'
          rw [if_pos rfl]
          rcases hv d' rfl hd' with ⟨h1, h2⟩ | h1
          · intro hg'
            have h3 := h.1 d hd g hg
            rw [h1] at hg'; injection hg' with hg'; injection hg' with hg'; injection hg' with hg'; omega
          · exact h1 g
        · rw [if_neg hde']; exact h.2 d hd d' hd' hne g hW hg

section
variable {P : Program} {ops : Array Oper} {Q : Exit → Act → World → Prop} {B : Base}
theorem Sat.put {σ : Sig} {D : List Tmp} {a : Act} {w : World} {dst : Option Tmp} {Φ : Value → World → Prop} (h : ∀ d, dst = some d → d ∉ D) : Sat (σ.put dst Φ) D a w ↔ Sat σ D a w := by
  cases dst with
  | none => exact Iff.rfl
  | some d =>
    have hd := h d rfl
    constructor
    · intro hs t ht
      have : (if t = d then Φ else σ t) (rd a t) w := hs t ht
      rwa [if_neg (fun e => hd (by rw [← e]; exact ht))] at this
    · intro hs t ht
      show (if t = d then Φ else σ t) (rd a t) w
      rw [if_neg (fun e => hd (by rw [← e]; exact ht))]
      exact hs t ht
theorem Claim.put {o : Oper} {σ : Sig} {Φ Ψ : Value → World → Prop} {dst : Option Tmp} (h : ∀ d, dst = some d → d ∉ o.looksAt ops) : Claim P ops B o (σ.put dst Ψ) Φ ↔ Claim P ops B o σ Φ := by
  unfold Claim
  simp only [Sat.put h]
theorem Sig.put_comm (σ : Sig) {x y : Option Tmp} (Φ Ψ : Value → World → Prop) (h : ∀ d, x = some d → y ≠ some d) : (σ.put x Φ).put y Ψ = (σ.put y Ψ).put x Φ := by
  cases x with
  | none => rfl
  | some d =>
    cases y with
    | none => rfl
    | some e =>
      have hne : d ≠ e := fun he => h d rfl (by rw [he])
      funext t
      show (if t = e then Ψ else if t = d then Φ else σ t) = (if t = d then Φ else if t = e then Ψ else σ t)
      by_cases h1 : t = e
      · by_cases h2 : t = d
        · exact absurd (h2.symm.trans h1) hne
        · rw [if_pos h1, if_neg h2, if_pos h1]
      · rw [if_neg h1, if_neg h1]

/-- The last operations, for which nothing is asked: each waits for all that stand ahead of it. -/
def Tail (P : Program) (ops : Array Oper) (Q : Exit → Act → World → Prop) (B : Base) (l : List Nat) (σ : Sig) : Prop :=
  (∀ p i s, l = p ++ i :: s → ∀ k, k < ops.size → k ∉ i :: s → Waits ops i k) ∧ ∀ a w, B.ok a w → (∀ t, σ t (rd a t) w) → wpOps P ops Q l a w
def SeqS (P : Program) (ops : Array Oper) (Q : Exit → Act → World → Prop) (B : Base) : List Nat → Sig → Prop
  | [], σ => ∀ a w, B.ok a w → (∀ t, σ t (rd a t) w) → Q .normal a w
  | i :: r, σ => (∃ o Φ, ops[i]? = some o ∧ Claim P ops B o σ Φ ∧ SeqS P ops Q B r (σ.put o.dst Φ)) ∨ Tail P ops Q B (i :: r) σ

theorem SeqS.pull (i : Nat) (s : List Nat) : ∀ (p : List Nat) (σ : Sig), (∀ k ∈ p, Apart ops k i ∧ ¬ Waits ops i k ∧ k < ops.size ∧ k ∉ i :: s) → (∃ o, ops[i]? = some o) → SeqS P ops Q B (p ++ i :: s) σ →
    (∃ o Φ, ops[i]? = some o ∧ Claim P ops B o σ Φ ∧ SeqS P ops Q B (p ++ s) (σ.put o.dst Φ)) ∨ (p = [] ∧ Tail P ops Q B (i :: s) σ) := by
  intro p
  induction p with
  | nil =>
    intro σ _ _ h
    rcases h with h | h
    · exact .inl h
    · exact .inr ⟨rfl, h⟩
  | cons k p ih =>
    intro σ hap hoi h
    obtain ⟨hk, hkw, hks, hki⟩ := hap k List.mem_cons_self
    rcases h with ⟨ok, Φk, hok, hck, hr⟩ | ht
    · rcases ih _ (fun k' hk' => hap k' (List.mem_cons_of_mem _ hk')) hoi hr with ⟨oi, Φi, hoi', hci, hr'⟩ | ⟨rfl, ht⟩
      · obtain ⟨h1, h2, h3⟩ := Oper.apart_spec (hk ok oi hok hoi')
        refine .inl ⟨oi, Φi, hoi', (Claim.put h1).1 hci, .inl ⟨ok, Φk, hok, (Claim.put h3).2 hck, ?_⟩⟩
        rw [← Sig.put_comm σ Φk Φi h2]
        exact hr'
      · exact absurd (ht.1 [] i s rfl k hks hki) hkw
    · exact absurd (ht.1 (k :: p) i s rfl k hks hki) hkw

/-- The last operations run one behind the other. -/
theorem any_of_tail : ∀ (l : List Nat) (listed : Array Bool) (a : Act) (w : World), (∀ p i s, l = p ++ i :: s → ∀ k, k < ops.size → k ∉ i :: s → Waits ops i k) → l.Nodup → listed.size = ops.size →
    (∀ j, j < ops.size → (listed.getD j true = false ↔ j ∈ l)) → Up ops l → (∀ k ∈ l, k < ops.size) → Order ops l → wpOps P ops Q l a w → wpAny P .any ops Q l.length listed a w := by
  intro l
  induction l with
  | nil =>
    intro listed a w _ _ _ hr _ _ _ h
    refine ⟨?_, h⟩
    cases hd : Region.ready .any ops listed with
    | nil => rfl
    | cons j t =>
      have hj : j ∈ Region.ready .any ops listed := by rw [hd]; exact List.mem_cons_self
      obtain ⟨hju, oj, hoj, _⟩ := mem_ready.1 hj
      have := (hr j (Array.getElem?_eq_some_iff.1 hoj).1).1 hju
      cases this
  | cons i r ih =>
    intro listed a w hw hn hz hr hu hlt ho h
    have hii := hlt i List.mem_cons_self
    refine ⟨fun h0 => ?_, fun j hj => ?_⟩
    · exfalso
      have hoi : ops[i]? = some (ops[i]'hii) := Array.getElem?_eq_getElem hii
      have : i ∈ Region.ready .any ops listed := by
        refine mem_ready.2 ⟨(hr i hii).2 List.mem_cons_self, _, hoi, fun e he hb => ?_⟩
        obtain ⟨hno, hle⟩ := ho.2.1 _ hoi e he hb
        cases hv : listed.getD e.on false with
        | true => rfl
        | false => exact absurd ((hr _ hle).1 (by rw [getD_in (by rw [hz]; exact hle)]; exact hv)) hno
      rw [h0] at this
      cases this
    · obtain ⟨hju, oj, hoj, hall⟩ := mem_ready.1 hj
      have hjs := (Array.getElem?_eq_some_iff.1 hoj).1
      have hjm := (hr j hjs).1 hju
      have hji : j = i := by
        rcases List.mem_cons.1 hjm with e | hjr
        · exact e
        · exfalso
          obtain ⟨p, s, rfl⟩ := List.append_of_mem hjr
          have hni : i ∉ j :: s := fun hm => (List.nodup_cons.1 hn).1 (List.mem_append_right _ hm)
          have hwt := hw (i :: p) j s rfl i hii hni
          obtain ⟨o', ho', e, he, hb, hm⟩ := hu.waits hwt List.mem_cons_self
          obtain rfl : o' = oj := Option.some.inj (ho'.symm.trans hoj)
          have hle := hlt _ hm
          have h1 := (hr _ hle).2 hm
          rw [getD_in (by rw [hz]; exact hle), hall e he hb] at h1
          cases h1
      subst hji
      rw [wpOps_cons] at h
      refine wpOp_mono (fun a' w' h' => ih _ a' w' (fun p i' s e => hw (j :: p) i' s (by rw [e]; rfl)) (List.nodup_cons.1 hn).2 (by rw [Array.size_setIfInBounds, hz]) ?_ ?_ (fun k hk => hlt k (List.mem_cons_of_mem _ hk)) ho.2.2.2 h') h
      · intro k hk
        by_cases hkj : j = k
        · subst hkj
          refine ⟨fun h => ?_, fun h => absurd h (List.nodup_cons.1 hn).1⟩
          rw [getD_set_same (by rw [hz]; exact hk)] at h
          cases h
        · rw [getD_set_ne true hkj, hr k hk, List.mem_cons]
          exact ⟨fun h => h.resolve_left (fun e => hkj e.symm), .inr⟩
      · intro m om hom e he hb hm
        have hin := hu m om hom e he hb (List.mem_cons_of_mem _ hm)
        rcases List.mem_cons.1 hin with rfl | hin
        · exfalso
          obtain rfl : om = oj := Option.some.inj (hom.symm.trans hoj)
          have hle := hlt _ (List.mem_cons_of_mem _ hm)
          have h1 := (hr _ hle).2 (List.mem_cons_of_mem _ hm)
          rw [getD_in (by rw [hz]; exact hle), hall e he hb] at h1
          cases h1
        · exact hin

theorem any_of_seqS (hsel : ∀ (j : Nat) (o : Oper) cs b, ops[j]? = some o → o.op ≠ .select cs b) :
    ∀ (fuel : Nat) (r : List Nat) (listed : Array Bool) (σ : Sig) (a : Act) (w : World), r.length = fuel → r.Nodup → listed.size = ops.size → (∀ j, j < ops.size → (listed.getD j true = false ↔ j ∈ r)) →
      Up ops r → Order ops r → SeqS P ops Q B r σ → B.ok a w → (∀ t, σ t (rd a t) w) → (∀ t, Lasts (σ t)) → wpAny P .any ops Q fuel listed a w := by
  intro fuel
  induction fuel with
  | zero =>
    intro r listed σ a w hl _ hz hr _ _ hs hB hσ _
    obtain rfl := List.length_eq_zero_iff.1 hl
    refine ⟨?_, hs a w hB hσ⟩
    cases hd : Region.ready .any ops listed with
    | nil => rfl
    | cons j t =>
      have hj : j ∈ Region.ready .any ops listed := by rw [hd]; exact List.mem_cons_self
      obtain ⟨hju, oj, hoj, _⟩ := mem_ready.1 hj
      have := (hr j (Array.getElem?_eq_some_iff.1 hoj).1).1 hju
      cases this
  | succ fuel ih =>
    intro r listed σ a w hl hn hz hr hu ho hs hB hσ hlast
    refine ⟨fun h0 => ?_, fun i hi => ?_⟩
    · cases r with
      | nil => simp at hl
      | cons i r =>
        exfalso
        have hoi : ops[i]? = some (ops[i]'ho.1) := Array.getElem?_eq_getElem ho.1
        have : i ∈ Region.ready .any ops listed := by
          refine mem_ready.2 ⟨(hr i ho.1).2 List.mem_cons_self, _, hoi, fun e he hb => ?_⟩
          obtain ⟨hno, hlt⟩ := ho.2.1 _ hoi e he hb
          cases hv : listed.getD e.on false with
          | true => rfl
          | false => exact absurd ((hr _ hlt).1 (by rw [getD_in (by rw [hz]; exact hlt)]; exact hv)) hno
        rw [h0] at this
        cases this
    · obtain ⟨hiu, oi, hoi, hall⟩ := mem_ready.1 hi
      have hii := (Array.getElem?_eq_some_iff.1 hoi).1
      obtain ⟨p, s, rfl⟩ := List.append_of_mem ((hr i hii).1 hiu)
      have hnot : i ∉ p ++ s := by
        have := hn
        rw [List.nodup_append] at this
        obtain ⟨_, h2, h3⟩ := this
        simp only [List.mem_append, not_or]
        exact ⟨fun h => h3 i h i List.mem_cons_self rfl, (List.nodup_cons.1 h2).1⟩
      have hnw : ∀ k ∈ p ++ i :: s, ¬ Waits ops i k := fun k hk h => by
        obtain ⟨o', ho', e, he, hb, hm⟩ := hu.waits h hk
        obtain rfl : o' = oi := Option.some.inj (ho'.symm.trans hoi)
        have hlt := ho.lt _ e.on hm
        have h1 := (hr _ hlt).2 hm
        rw [getD_in (by rw [hz]; exact hlt), hall e he hb] at h1
        cases h1
      have hap : ∀ k ∈ p, Apart ops k i ∧ ¬ Waits ops i k ∧ k < ops.size ∧ k ∉ i :: s := fun k hk => by
        have hkm : k ∈ p ++ i :: s := List.mem_append_left _ hk
        refine ⟨?_, hnw k hkm, ho.lt _ k hkm, fun e => by have := hn; rw [List.nodup_append] at this; exact this.2.2 k hk k e rfl⟩
        rcases ho.ahead p i s k hk with h | h
        · exact h
        · exact absurd h (hnw k hkm)
      rcases SeqS.pull i s p σ hap ⟨oi, hoi⟩ hs with ⟨o, Φ, ho', ⟨hd, hΦ, hcl⟩, hrest⟩ | ⟨rfl, ht⟩
      · obtain rfl : o = oi := Option.some.inj (ho'.symm.trans hoi)
        have next : ∀ v w', Ext w w' → Φ v w' → (∀ d, o.dst = some d → d ∈ B.D → (v = .pointer (some ⟨w.heap.size, 0, none⟩) ∧ w.heap.size < w'.heap.size) ∨ ∀ g, v ≠ .pointer (some ⟨g, 0, none⟩)) → wpAny P .any ops Q fuel (listed.setIfInBounds i true) (a.put o.dst v) w' := by
          intro v w' hE hv hnew
          refine ih (p ++ s) _ (σ.put o.dst Φ) _ _ ?_ ?_ ?_ ?_ ?_ (ho.sub p i s) hrest ?_ ?_ ?_
          · simp only [List.length_append, List.length_cons] at hl ⊢; omega
          · exact hn.sublist (List.Sublist.append_left (List.sublist_cons_self i s) p)
          · rw [Array.size_setIfInBounds, hz]
          · intro j hj
            by_cases hji : i = j
            · subst hji
              refine ⟨fun h => ?_, fun h => absurd h hnot⟩
              rw [getD_set_same (by rw [hz]; exact hii)] at h
              cases h
            · rw [getD_set_ne true hji, hr j hj]
              simp only [List.mem_append, List.mem_cons]
              constructor
              · rintro (h | h | h)
                · exact .inl h
                · exact absurd h.symm hji
                · exact .inr h
              · rintro (h | h)
                · exact .inl h
                · exact .inr (.inr h)
          · intro m om hom e he hb hm
            have hm' : e.on ∈ p ++ i :: s := by
              simp only [List.mem_append, List.mem_cons] at hm ⊢
              rcases hm with h | h
              · exact .inl h
              · exact .inr (.inr h)
            have hin := hu m om hom e he hb hm'
            have hmi : m ≠ i := by
              rintro rfl
              exact hnw _ hm' (.one hom he hb)
            simp only [List.mem_append, List.mem_cons] at hin ⊢
            rcases hin with h | h | h
            · exact .inl h
            · exact absurd h hmi
            · exact .inr h
          · obtain ⟨b1, b2, b3, b4⟩ := hB
            refine ⟨?_, ?_, b3.trans hE, apt_put b4 (Below.size hE) (fun d e => by rw [b1]; exact hd d e) hnew⟩
            · cases hdst : o.dst <;> simp [Act.put, b1]
            · cases hdst : o.dst <;> simp [Act.put, b2]
          · intro t
            cases hdst : o.dst with
            | none => exact hlast t _ _ _ (hσ t) hE
            | some d =>
              have hdn := hd d hdst
              by_cases htd : t = d
              · subst htd
                have e1 : rd (a.put (some t) v) t = v := by simp [rd, Act.put, hB.1, hdn]
                rw [e1]
                show (if t = t then Φ else σ t) v w'
                rw [if_pos rfl]
                exact hv
              · have e1 : rd (a.put (some d) v) t = rd a t := by
                  show (a.tmps.setIfInBounds d v).getD t undef = a.tmps.getD t undef
                  rw [Array.getD_eq_getD_getElem?, Array.getD_eq_getD_getElem?, Array.getElem?_setIfInBounds_ne (fun e => htd e.symm)]
                rw [e1]
                show (if t = d then Φ else σ t) _ w'
                rw [if_neg htd]
                exact hlast t _ _ _ (hσ t) hE
          · intro t
            cases hdst : o.dst with
            | none => exact hlast t
            | some d =>
              show Lasts (if t = d then Φ else σ t)
              by_cases htd : t = d
              · rw [if_pos htd]; exact hΦ
              · rw [if_neg htd]; exact hlast t
        unfold wpOp
        simp only [hoi]
        rcases hcl with hcl | hcl
        · obtain ⟨hw, ho⟩ := hcl a w hB fun t _ => hσ t
          simp only [hw, if_true]
          refine .inl ?_
          unfold Oper.wp
          rcases ho with ⟨v, w', hrun, hE, hv, hnw'⟩ | ⟨f, args, w', hrun, hE, hnd, hc⟩
          · rw [hrun]; exact next v w' hE hv fun d e hm => .inl (hnw' d e hm)
          · rw [hrun, Oper.upon_enter]
            refine hc.mono ?_
            rintro e w'' ⟨v, rfl, hE', hv⟩
            exact next v w'' (hE.trans hE') hv fun d e hm => absurd hm (hnd d e)
        · obtain ⟨hw, hv⟩ := hcl a w hB fun t _ => hσ t
          simp only [hw, Bool.false_eq_true, if_false]
          exact next undef w (Ext.refl _) hv fun _ _ _ => .inr fun g e => by cases e
      · have hall := any_of_tail (P := P) (Q := Q) (i :: s) listed a w ht.1 hn hz hr hu (ho.lt _) ho (ht.2 a w hB hσ)
        rw [show (i :: s).length = fuel + 1 from hl] at hall
        exact hall.2 i hi

/-! ### The walk's form: a frame, and of some of its temporaries a property in the place of a value -/
def fill (a : Act) (ρ : Tmp → Value) : List (Tmp × (Value → World → Prop)) → Act
  | [] => a
  | (d, _) :: R => (fill a ρ R).put (some d) (ρ d)
def sig (a : Act) : List (Tmp × (Value → World → Prop)) → Sig
  | [] => fun t => Is (rd a t)
  | (d, Φ) :: R => (sig a R).put (some d) Φ
theorem fill_size (a : Act) (ρ : Tmp → Value) : ∀ R, (fill a ρ R).tmps.size = a.tmps.size := by
  intro R
  induction R with
  | nil => rfl
  | cons x R ih => show ((fill a ρ R).tmps.setIfInBounds _ _).size = _; rw [Array.size_setIfInBounds, ih]
theorem fill_defers (a : Act) (ρ : Tmp → Value) : ∀ R, (fill a ρ R).defers = a.defers := by
  intro R
  induction R with
  | nil => rfl
  | cons x R ih => exact ih
theorem rd_put {a : Act} {d t : Tmp} {v : Value} (h : d < a.tmps.size) : rd (a.put (some d) v) t = if t = d then v else rd a t := by
  show (a.tmps.setIfInBounds d v).getD t undef = _
  rw [Array.getD_eq_getD_getElem?, Array.getElem?_setIfInBounds]
  by_cases htd : t = d
  · subst htd; simp [h]
  · rw [if_neg (fun e => htd e.symm), if_neg htd, rd, Array.getD_eq_getD_getElem?]
theorem sig_lasts (a : Act) : ∀ R, (∀ x ∈ R, Lasts x.2) → ∀ t, Lasts (sig a R t) := by
  intro R
  induction R with
  | nil => intro _ t; exact Is.lasts _
  | cons x R ih =>
    intro h t
    show Lasts (if t = x.1 then x.2 else sig a R t)
    by_cases htd : t = x.1
    · rw [if_pos htd]; exact h x List.mem_cons_self
    · rw [if_neg htd]; exact ih (fun y hy => h y (List.mem_cons_of_mem _ hy)) t
theorem sig_put (v : Value) (d : Tmp) : ∀ (a : Act) (R : List (Tmp × (Value → World → Prop))), d < a.tmps.size → (∀ x ∈ R, x.1 ≠ d) → (sig a R).put (some d) (Is v) = sig (a.put (some d) v) R := by
  intro a R hd
  induction R with
  | nil =>
    intro _
    funext t
    show (if t = d then Is v else Is (rd a t)) = Is (rd (a.put (some d) v) t)
    rw [rd_put hd]
    by_cases htd : t = d
    · rw [if_pos htd, if_pos htd]
    · rw [if_neg htd, if_neg htd]
  | cons x R ih =>
    intro h
    show ((sig a R).put (some x.1) x.2).put (some d) (Is v) = (sig (a.put (some d) v) R).put (some x.1) x.2
    rw [← ih fun y hy => h y (List.mem_cons_of_mem _ hy), Sig.put_comm]
    intro e he
    injection he with he
    intro hc
    injection hc with hc
    exact h x List.mem_cons_self (he.trans hc.symm)
/-- Whoever meets what is said of the temporaries is the frame, filled. -/
theorem rd_fill {a a' : Act} {w : World} {t : Tmp} : ∀ R, (∀ x ∈ R, x.1 < a.tmps.size) → sig a R t (rd a' t) w → rd a' t = rd (fill a (rd a') R) t := by
  intro R
  induction R with
  | nil => intro _ h; exact h
  | cons x R ih =>
    intro hb h
    have hx := hb x List.mem_cons_self
    show _ = rd ((fill a (rd a') R).put (some x.1) (rd a' x.1)) t
    rw [rd_put (by rw [fill_size]; exact hx)]
    by_cases htd : t = x.1
    · rw [if_pos htd, htd]
    · rw [if_neg htd]
      refine ih (fun y hy => hb y (List.mem_cons_of_mem _ hy)) ?_
      have : (if t = x.1 then x.2 else sig a R t) (rd a' t) w := h
      rwa [if_neg htd] at this
def tmps (R : List (Tmp × (Value → World → Prop))) : List Tmp := R.map Prod.fst
theorem sig_at {a : Act} : ∀ R : List (Tmp × (Value → World → Prop)), (tmps R).Nodup → ∀ x ∈ R, sig a R x.1 = x.2 := by
  intro R
  induction R with
  | nil => intro _ x hx; cases hx
  | cons y R ih =>
    intro hn x hx
    have hn' := List.nodup_cons.1 hn
    show (if x.1 = y.1 then y.2 else sig a R x.1) = x.2
    rcases List.mem_cons.1 hx with rfl | hx
    · rw [if_pos rfl]
    · have hne : x.1 ≠ y.1 := fun h => hn'.1 (by rw [← h]; exact List.mem_map_of_mem hx)
      rw [if_neg hne]
      exact ih hn'.2 x hx
/-- What may be leaned on where the temporaries D are looked at. -/
def Facts (R : List (Tmp × (Value → World → Prop))) (D : List Tmp) (ρ : Tmp → Value) (w : World) : Prop := ∀ x ∈ R, x.1 ∈ D → x.2 (ρ x.1) w
theorem Facts.get {R : List (Tmp × (Value → World → Prop))} {D : List Tmp} {ρ : Tmp → Value} {w : World} (h : Facts R D ρ w) {d : Tmp} {Φ : Value → World → Prop} (hm : (d, Φ) ∈ R) (hD : D.contains d = true) : Φ (ρ d) w :=
  h _ hm (by simpa using hD)
theorem eval_rd {a a' : Act} {x : Operand} (h : ∀ t, x = .tmp t → rd a t = rd a' t) : a.eval x = a'.eval x := by
  cases x with
  | tmp t => exact h t rfl
  | const v => rfl
  | global g => rfl
  | func f => rfl
theorem execOp_rd {o : Oper} {a a' : Act} (hs : ∀ cs b, o.op ≠ .select cs b) (h : ∀ t ∈ o.looksAt ops, rd a t = rd a' t) : execOp a.eval o = execOp a'.eval o :=
  execOp_congr o hs fun x hx => eval_rd fun t e => h t (by
    subst e
    exact List.mem_append_left _ (List.mem_filterMap.2 ⟨.tmp t, by simpa using hx, rfl⟩))
theorem wanted_rd {o : Oper} {a a' : Act} (hz : a.tmps.size = a'.tmps.size) (h : ∀ t ∈ o.looksAt ops, rd a t = rd a' t) :
    Region.wanted o (yielded ops a.tmps) = Region.wanted o (yielded ops a'.tmps) := by
  unfold Region.wanted
  cases hg : o.guard with
  | none => rfl
  | some gw =>
    obtain ⟨g, want⟩ := gw
    have hy : yielded ops a.tmps g = yielded ops a'.tmps g := by
      unfold yielded
      cases ht : (ops[g]?).bind (·.dst) with
      | none => rfl
      | some t =>
        have := h t (by simp [Oper.looksAt, hg, ht])
        unfold rd at this
        rw [Array.getD_eq_getD_getElem?, Array.getD_eq_getD_getElem?] at this
        have e : a.tmps[t]? = a'.tmps[t]? := by
          by_cases hlt : t < a.tmps.size
          · have hlt' : t < a'.tmps.size := hz ▸ hlt
            rw [Array.getElem?_eq_getElem hlt, Array.getElem?_eq_getElem hlt'] at this ⊢
            exact congrArg some this
          · rw [Array.getElem?_eq_none (Nat.le_of_not_lt hlt), Array.getElem?_eq_none (hz ▸ Nat.le_of_not_lt hlt)]
        simp [e]
    simp only [hy]

def SeqR (P : Program) (ops : Array Oper) (Q : Exit → Act → World → Prop) (B : Base) (l : List Oper) (a : Act) (R : List (Tmp × (Value → World → Prop))) : Prop :=
  ∀ k, k + l.length = ops.size → (∀ j, j < l.length → ops[k + j]? = l[j]?) → a.tmps.size = B.n → a.defers = B.ds → (∀ x ∈ R, x.1 < a.tmps.size) → (tmps R).Nodup → (∀ o ∈ l, ∀ cs b, o.op ≠ .select cs b) →
    SeqS P ops Q B (List.range' k l.length) (sig a R)

theorem SeqR.step {o : Oper} {l : List Oper} {a a' : Act} {R R' : List (Tmp × (Value → World → Prop))} {Φ : Value → World → Prop}
    (hc : a.tmps.size = B.n → a.defers = B.ds → (∀ x ∈ R, x.1 < a.tmps.size) → (tmps R).Nodup → (∀ cs b, o.op ≠ .select cs b) →
      Claim P ops B o (sig a R) Φ ∧ (sig a R).put o.dst Φ = sig a' R' ∧ a'.tmps.size = a.tmps.size ∧ a'.defers = a.defers ∧ (∀ x ∈ R', x.1 < a.tmps.size) ∧ (tmps R').Nodup)
    (h : SeqR P ops Q B l a' R') : SeqR P ops Q B (o :: l) a R := by
  intro k hk hat hz hd hb hn hs
  obtain ⟨c1, c2, c3, c4, c5, c6⟩ := hc hz hd hb hn (hs o List.mem_cons_self)
  refine .inl ⟨o, Φ, by have := hat 0 (by simp); simpa using this, c1, ?_⟩
  rw [c2]
  refine h (k + 1) (by simp only [List.length_cons] at hk; omega) (fun j hj => ?_) (c3.trans hz) (c4.trans hd) (fun x hx => by rw [c3]; exact c5 x hx) c6 (fun o' ho' => hs o' (List.mem_cons_of_mem _ ho'))
  have := hat (j + 1) (by simp only [List.length_cons]; omega)
  rw [show k + 1 + j = k + (j + 1) by omega, this]
  simp
theorem claim_of {o : Oper} {a : Act} {R : List (Tmp × (Value → World → Prop))} {Φ : Value → World → Prop} (hz : a.tmps.size = B.n) (hb : ∀ x ∈ R, x.1 < a.tmps.size) (hn : (tmps R).Nodup) (hs : ∀ cs b, o.op ≠ .select cs b)
    (hd : ∀ d, o.dst = some d → d < B.n) (hΦ : Lasts Φ)
    (h : (∀ ρ w, Ext B.W w → Facts R (o.looksAt ops) ρ w → Region.wanted o (yielded ops (fill a ρ R).tmps) = true ∧ Outcome P B.D o (fill a ρ R) w Φ) ∨
      (∀ ρ w, Ext B.W w → Facts R (o.looksAt ops) ρ w → Region.wanted o (yielded ops (fill a ρ R).tmps) = false ∧ Φ undef w)) : Claim P ops B o (sig a R) Φ := by
  refine ⟨hd, hΦ, ?_⟩
  have key : ∀ a' w, B.ok a' w → Sat (sig a R) (o.looksAt ops) a' w → Facts R (o.looksAt ops) (rd a') w ∧ (∀ t ∈ o.looksAt ops, rd a' t = rd (fill a (rd a') R) t) ∧ a'.tmps.size = (fill a (rd a') R).tmps.size := by
    intro a' w hB hS
    refine ⟨fun x hx hxD => ?_, fun t ht => rd_fill R hb (hS t ht), by rw [fill_size, hB.1, hz]⟩
    have := hS x.1 hxD
    rwa [sig_at R hn x hx] at this
  rcases h with h | h
  · refine .inl fun a' w hB hS => ?_
    obtain ⟨k1, k2, k3⟩ := key a' w hB hS
    obtain ⟨h1, h2⟩ := h (rd a') w hB.2.2.1 k1
    refine ⟨by rw [wanted_rd k3 k2]; exact h1, ?_⟩
    unfold Outcome at h2 ⊢
    rw [execOp_rd hs k2]
    exact h2
  · refine .inr fun a' w hB hS => ?_
    obtain ⟨k1, k2, k3⟩ := key a' w hB hS
    obtain ⟨h1, h2⟩ := h (rd a') w hB.2.2.1 k1
    exact ⟨by rw [wanted_rd k3 k2]; exact h1, h2⟩
def fresh (dst : Option Tmp) (D : List Tmp) (n : Nat) : Bool := match dst with
  | none => true
  | some d => decide (d < n) && !D.contains d
theorem put_is {a : Act} {R : List (Tmp × (Value → World → Prop))} {dst : Option Tmp} {v : Value} (hf : fresh dst (tmps R) a.tmps.size = true) : (sig a R).put dst (Is v) = sig (a.put dst v) R := by
  cases dst with
  | none => rfl
  | some d =>
    simp only [fresh, Bool.and_eq_true, decide_eq_true_eq, Bool.not_eq_true', List.contains_eq_mem, decide_eq_false_iff_not] at hf
    exact sig_put v d a R hf.1 fun x hx e => hf.2 (by rw [← e]; exact List.mem_map_of_mem hx)
theorem put_size (a : Act) (dst : Option Tmp) (v : Value) : (a.put dst v).tmps.size = a.tmps.size := by cases dst <;> simp [Act.put]
theorem put_defers (a : Act) (dst : Option Tmp) (v : Value) : (a.put dst v).defers = a.defers := by cases dst <;> rfl
theorem fresh_lt {dst : Option Tmp} {D : List Tmp} {n : Nat} (hf : fresh dst D n = true) : ∀ d, dst = some d → d < n := by
  rintro d rfl
  simp only [fresh, Bool.and_eq_true, decide_eq_true_eq] at hf
  exact hf.1
theorem fresh_split {dst : Option Tmp} {A D : List Tmp} {n : Nat} (hf : fresh dst (A ++ D) n = true) : fresh dst A n = true ∧ ∀ d, dst = some d → d ∉ D := by
  cases dst with
  | none => exact ⟨rfl, fun d e => by cases e⟩
  | some x =>
    simp only [fresh, Bool.and_eq_true, decide_eq_true_eq, Bool.not_eq_true', List.contains_eq_mem, decide_eq_false_iff_not, List.mem_append, not_or] at hf ⊢
    exact ⟨⟨hf.1, hf.2.1⟩, fun d e => by cases e; exact hf.2.2⟩
section
variable {n : Nat} {ds : List Deferred} {W : World} {D : List Tmp}
variable {o : Oper} {l : List Oper} {a : Act} {R : List (Tmp × (Value → World → Prop))}
/-- An operation that is not wanted. -/
theorem seqr_skip (hf0 : fresh o.dst (tmps R ++ D) a.tmps.size = true) (hw : ∀ ρ, Region.wanted o (yielded ops (fill a ρ R).tmps) = false) (h : SeqR P ops Q ⟨n, ds, W, D⟩ l (a.put o.dst undef) R) : SeqR P ops Q ⟨n, ds, W, D⟩ (o :: l) a R := by
  obtain ⟨hf, hfD⟩ := fresh_split hf0
  refine SeqR.step (Φ := Is undef) (fun hz hd hb hn hs => ⟨claim_of hz hb hn hs (fun d e => hz ▸ fresh_lt hf d e) (Is.lasts _) (.inr fun ρ w _ _ => ⟨hw ρ, rfl⟩), put_is hf, put_size _ _ _, put_defers _ _ _, hb, hn⟩) h
/-- One that yields v, and writes nothing. -/
theorem seqr_pure {v : Value} (hf0 : fresh o.dst (tmps R ++ D) a.tmps.size = true) (hw : ∀ ρ, Region.wanted o (yielded ops (fill a ρ R).tmps) = true)
    (hv : ∀ ρ w, Ext W w → Facts R (o.looksAt ops) ρ w → (execOp (fill a ρ R).eval o).run P w = .ok (.value v) w) (h : SeqR P ops Q ⟨n, ds, W, D⟩ l (a.put o.dst v) R) : SeqR P ops Q ⟨n, ds, W, D⟩ (o :: l) a R := by
  obtain ⟨hf, hfD⟩ := fresh_split hf0
  refine SeqR.step (Φ := Is v) (fun hz hd hb hn hs => ⟨claim_of hz hb hn hs (fun d e => hz ▸ fresh_lt hf d e) (Is.lasts _) (.inl fun ρ w hE hF => ⟨hw ρ, .inl ⟨v, w, hv ρ w hE hF, Ext.refl _, rfl, fun d e hm => absurd hm (hfD d e)⟩⟩), put_is hf, put_size _ _ _, put_defers _ _ _, hb, hn⟩) h
/-- A call that hands back v. -/
theorem seqr_call {v : Value} {f : FuncId} {args : (Tmp → Value) → Array Value} (hf0 : fresh o.dst (tmps R ++ D) a.tmps.size = true) (hw : ∀ ρ, Region.wanted o (yielded ops (fill a ρ R).tmps) = true)
    (hv : ∀ ρ w, (execOp (fill a ρ R).eval o).run P w = .ok (.enter f (args ρ)) w)
    (hc : ∀ ρ w, Ext W w → Facts R (o.looksAt ops) ρ w → Calls P f (args ρ) w fun e w' => e = .returned v ∧ Ext w w')
    (h : SeqR P ops Q ⟨n, ds, W, D⟩ l (a.put o.dst v) R) : SeqR P ops Q ⟨n, ds, W, D⟩ (o :: l) a R := by
  obtain ⟨hf, hfD⟩ := fresh_split hf0
  refine SeqR.step (Φ := Is v) (fun hz hd hb hn hs => ⟨claim_of hz hb hn hs (fun d e => hz ▸ fresh_lt hf d e) (Is.lasts _) (.inl fun ρ w hE hF => ⟨hw ρ, .inr ⟨f, args ρ, w, hv ρ w, Ext.refl _, hfD, ?_⟩⟩), put_is hf, put_size _ _ _, put_defers _ _ _, hb, hn⟩) h
  exact (hc ρ w hE hF).mono fun e w' ⟨he, hE'⟩ => ⟨v, he, hE', rfl⟩
theorem seqr_call0 {v : Value} {f : FuncId} {args : Array Value} (hf0 : fresh o.dst (tmps R ++ D) a.tmps.size = true) (hw : ∀ ρ, Region.wanted o (yielded ops (fill a ρ R).tmps) = true)
    (hv : ∀ ρ w, (execOp (fill a ρ R).eval o).run P w = .ok (.enter f args) w)
    (hc : ∀ w, Ext W w → Calls P f args w fun e w' => e = .returned v ∧ Ext w w')
    (h : SeqR P ops Q ⟨n, ds, W, D⟩ l (a.put o.dst v) R) : SeqR P ops Q ⟨n, ds, W, D⟩ (o :: l) a R :=
  seqr_call (args := fun _ => args) hf0 hw hv (fun _ w hE _ => hc w hE) h
theorem Outcome.more {D : List Tmp} {w : World} {Φ : Value → World → Prop} (h : Outcome P [] o a w Φ) (hD : ∀ d, o.dst = some d → d ∉ D) : Outcome P D o a w Φ := by
  rcases h with ⟨v, w', h1, h2, h3, _⟩ | ⟨f, args, w', h1, h2, _, h3⟩
  · exact .inl ⟨v, w', h1, h2, h3, fun d e hm => absurd hm (hD d e)⟩
  · exact .inr ⟨f, args, w', h1, h2, hD, h3⟩
/-- One of whose value a property is told. -/
theorem seqr_rel {d : Tmp} (Φ : Value → World → Prop) (hΦ : Lasts Φ) (hdst : o.dst = some d) (hf0 : fresh (some d) (tmps R ++ D) a.tmps.size = true) (hw : ∀ ρ, Region.wanted o (yielded ops (fill a ρ R).tmps) = true)
    (ho : ∀ ρ w, Ext W w → Facts R (o.looksAt ops) ρ w → Outcome P [] o (fill a ρ R) w Φ) (h : SeqR P ops Q ⟨n, ds, W, D⟩ l a ((d, Φ) :: R)) : SeqR P ops Q ⟨n, ds, W, D⟩ (o :: l) a R := by
  obtain ⟨hf, hfD⟩ := fresh_split hf0
  refine SeqR.step (Φ := Φ) (fun hz hd hb hn hs => ⟨claim_of hz hb hn hs (fun d' e => hz ▸ fresh_lt hf d' (by rw [← hdst, e])) hΦ (.inl fun ρ w hE hF => ⟨hw ρ, (ho ρ w hE hF).more fun d' e hm => hfD d' (by rw [← hdst, e]) hm⟩), by rw [hdst]; rfl, rfl, rfl, ?_, ?_⟩) h
  · intro x hx
    rcases List.mem_cons.1 hx with rfl | hx
    · exact fresh_lt hf _ rfl
    · exact hb x hx
  · simp only [fresh, Bool.and_eq_true, decide_eq_true_eq, Bool.not_eq_true', List.contains_eq_mem, decide_eq_false_iff_not] at hf
    exact List.nodup_cons.2 ⟨hf.2, hn⟩
/-- A variable that the region makes. -/
def BxOf (b : Nat) (t : TypeId) (cs : Array Value) (v : Value) (w : World) : Prop := ∃ g, v = .pointer (some ⟨g, 0, none⟩) ∧ b ≤ g ∧ w.heap[g]? = some (.cells cs t (0, 0))
theorem BxOf.lasts (b : Nat) (t : TypeId) (cs : Array Value) : Lasts (BxOf b t cs) := fun v w w' ⟨g, hv, hb, h⟩ hE =>
  ⟨g, hv, hb, by rw [Below.block hE g (Array.getElem?_eq_some_iff.1 h).1, h]⟩
theorem seqr_own {d : Tmp} (t : TypeId) (cs : Array Value) (hdst : o.dst = some d) (hdD : d ∈ D) (hf : fresh (some d) (tmps R) a.tmps.size = true) (hw : ∀ ρ, Region.wanted o (yielded ops (fill a ρ R).tmps) = true)
    (ho : ∀ ρ w, Ext W w → Facts R (o.looksAt ops) ρ w → (execOp (fill a ρ R).eval o).run P w = .ok (.value (.pointer (some ⟨w.heap.size, 0, none⟩))) (w.alloc (.cells cs t)))
    (h : SeqR P ops Q ⟨n, ds, W, D⟩ l a ((d, BxOf W.heap.size t cs) :: R)) : SeqR P ops Q ⟨n, ds, W, D⟩ (o :: l) a R := by
  refine SeqR.step (Φ := BxOf W.heap.size t cs) (fun hz hd hb hn hs => ⟨claim_of hz hb hn hs (fun d' e => hz ▸ fresh_lt hf d' (by rw [← hdst, e])) (BxOf.lasts _ _ _)
    (.inl fun ρ w hE hF => ⟨hw ρ, .inl ⟨_, _, ho ρ w hE hF, (Below.refl _ _).alloc (Nat.le_refl _) _, ⟨w.heap.size, rfl, Below.size hE, by show (w.heap.push _)[w.heap.size]? = _; simp⟩, fun d' e hm => ⟨rfl, by simp⟩⟩⟩), by rw [hdst]; rfl, rfl, rfl, ?_, ?_⟩) h
  · intro x hx
    rcases List.mem_cons.1 hx with rfl | hx
    · exact fresh_lt hf _ rfl
    · exact hb x hx
  · simp only [fresh, Bool.and_eq_true, decide_eq_true_eq, Bool.not_eq_true', List.contains_eq_mem, decide_eq_false_iff_not] at hf
    exact List.nodup_cons.2 ⟨hf.2, hn⟩
theorem outcome_value {Φ : Value → World → Prop} {w w' : World} {v : Value} (hr : (execOp a.eval o).run P w = .ok (.value v) w') (hE : Ext w w') (hv : Φ v w') : Outcome P [] o a w Φ := .inl ⟨v, w', hr, hE, hv, fun d e hm => by cases hm⟩
theorem outcome_call {Φ : Value → World → Prop} {w : World} {f : FuncId} {args : Array Value} (hr : (execOp a.eval o).run P w = .ok (.enter f args) w) (hc : Calls P f args w fun e w' => ∃ v, e = .returned v ∧ Ext w w' ∧ Φ v w') : Outcome P [] o a w Φ :=
  .inr ⟨f, args, w, hr, Ext.refl _, (fun d e hm => by cases hm), hc⟩
theorem seqr_done (h : ∀ ρ w, Ext W w → (∀ x ∈ R, x.2 (ρ x.1) w) → Q .normal (fill a ρ R) w) : SeqR P ops Q ⟨n, ds, W, D⟩ [] a R := by
  intro k hk hat hz hd hb hn hs a' w hB hσ
  have e : a' = fill a (rd a') R := by
    have h1 : a'.tmps.size = (fill a (rd a') R).tmps.size := by rw [fill_size, hB.1, hz]
    have h2 : a'.defers = (fill a (rd a') R).defers := by rw [fill_defers, hB.2.1, hd]
    have h3 : a'.tmps = (fill a (rd a') R).tmps := by
      refine Array.ext h1 fun t ht ht' => ?_
      have this : a'.tmps.getD t undef = (fill a (rd a') R).tmps.getD t undef := rd_fill R hb (hσ t)
      rw [Array.getD_eq_getD_getElem?, Array.getD_eq_getD_getElem?, Array.getElem?_eq_getElem ht, Array.getElem?_eq_getElem ht'] at this
      exact this
    cases a'
    cases hf : fill a (rd _) R
    rw [hf] at h2 h3
    simp only at h2 h3
    rw [h2, h3]
  rw [e]
  refine h (rd a') w hB.2.2.1 fun x hx => ?_
  have := hσ x.1
  rwa [sig_at R hn x hx] at this
def tailsB (ops : Array Oper) (m : Nat) : Bool := (List.range m).all fun j => (befs ops.toList #[]).getD (ops.size - 1 - j) 0 == 2 ^ (ops.size - 1 - j) - 1
theorem tailsB_at {m i : Nat} (h : tailsB ops m = true) (h1 : i < ops.size) (h2 : ops.size ≤ i + m) (k' : Nat) (hk : k' < i) : Waits ops i k' := by
  have h3 := List.all_eq_true.1 h (ops.size - 1 - i) (List.mem_range.2 (by omega))
  rw [show ops.size - 1 - (ops.size - 1 - i) = i by omega] at h3
  refine befs_waits ops ops.toList #[] (by simp) (fun j _ => by simp) (fun j k h => by simp at h) i k' ?_
  rw [beq_iff_eq.1 h3, Nat.testBit_two_pow_sub_one]
  simpa using hk
/-- The last operations, each of which waits for all that stand ahead of it, whatever they do. -/
theorem seqr_tails (hall : tailsB ops (l.length + 1) = true)
    (h : ∀ ρ w, Ext W w → (∀ x ∈ R, x.2 (ρ x.1) w) → Apt D W (fill a ρ R) w → wpList P ops Q (o :: l) (fill a ρ R) w) : SeqR P ops Q ⟨n, ds, W, D⟩ (o :: l) a R := by
  intro k hk hat hz hd hb hn hs
  refine .inr ⟨fun p i s hps k' hk1 hk2 => ?_, fun a' w hB hσ => ?_⟩
  · have hps' : List.range' k (o :: l).length = p ++ i :: s := hps
    have hdr : (List.range' k (o :: l).length).drop p.length = i :: s := by rw [hps']; simp
    rw [List.drop_range'] at hdr
    have hpl : p.length < (o :: l).length := by
      have := congrArg List.length hps'
      simp only [List.length_range', List.length_append, List.length_cons] at this ⊢
      omega
    have hi : i = k + p.length := by
      have := congrArg List.head? hdr
      rw [List.head?_range', if_neg (by omega)] at this
      simp at this
      omega
    have hmem : ∀ x, x ∈ i :: s ↔ k + p.length ≤ x ∧ x < k + p.length + ((o :: l).length - p.length) := fun x => by
      rw [← hdr]; simp [List.mem_range'_1]
    have hlt : k' < i := by
      have h1 := mt (hmem k').2 hk2
      omega
    exact tailsB_at hall (by omega) (by simp only [List.length_cons] at hk; omega) k' hlt
  · have e : a' = fill a (rd a') R := by
      have h1 : a'.tmps.size = (fill a (rd a') R).tmps.size := by rw [fill_size, hB.1, hz]
      have h2 : a'.defers = (fill a (rd a') R).defers := by rw [fill_defers, hB.2.1, hd]
      have h3 : a'.tmps = (fill a (rd a') R).tmps := by
        refine Array.ext h1 fun t ht ht' => ?_
        have this : a'.tmps.getD t undef = (fill a (rd a') R).tmps.getD t undef := rd_fill R hb (hσ t)
        rw [Array.getD_eq_getD_getElem?, Array.getD_eq_getD_getElem?, Array.getElem?_eq_getElem ht, Array.getElem?_eq_getElem ht'] at this
        exact this
      cases a'
      cases hf : fill a (rd _) R
      rw [hf] at h2 h3
      simp only at h2 h3
      rw [h2, h3]
    have hf : ∀ x ∈ R, x.2 (rd a' x.1) w := fun x hx => by
      have := hσ x.1
      rwa [sig_at R hn x hx] at this
    have hwl : wpOps P ops Q (List.range' k (o :: l).length) = wpList P ops Q (o :: l) := wpOps_eq_wpList (o :: l) k (fun j => by
      by_cases hj : j < (o :: l).length
      · exact (hat j hj).symm
      · rw [List.getElem?_eq_none (by omega), Array.getElem?_eq_none (by omega)])
    show wpOps P ops Q (List.range' k (o :: l).length) a' w
    have hap : Apt D W (fill a (rd a') R) w := by rw [← e]; exact hB.2.2.2
    rw [hwl, e]
    exact h (rd a') w hB.2.2.1 hf hap
/-- The last operation, which waits for all others, whatever it does. -/
theorem seqr_tail (hall : (befs ops.toList #[]).getD (ops.size - 1) 0 = 2 ^ (ops.size - 1) - 1) (hw : ∀ ρ, Region.wanted o (yielded ops (fill a ρ R).tmps) = true)
    (h : ∀ ρ w, Ext W w → (∀ x ∈ R, x.2 (ρ x.1) w) → ∀ K : Act → World → Prop, Closed (∀ a' w', Q .normal a' w' → K a' w') → Oper.wp P o (fill a ρ R) w K Q) : SeqR P ops Q ⟨n, ds, W, D⟩ [o] a R := by
  refine seqr_tails ?_ fun ρ w hE hf _ => ?_
  · simp only [tailsB, List.length_nil, Nat.zero_add, List.range_one, List.all_cons, List.all_nil, Bool.and_true, Nat.sub_zero, beq_iff_eq]
    exact hall
  · unfold wpList
    rw [if_pos (hw ρ)]
    exact .inl (h ρ w hE hf _ (fun _ _ h => h))
end

/-- What follows behind a region that does not panic. -/
def NQ (K : Act → World → Prop) : Exit → Act → World → Prop
  | .normal, a, w => K a w
  | _, _, _ => False
theorem NQ.weak {K : Act → World → Prop} (h : ∀ a w, K a w → Q .normal a w) : ∀ (e : Exit) (a : Act) (w : World), NQ K e a w → Q e a w := fun e a w hk => by
  cases e <;> first | exact h _ _ hk | exact (hk : False).elim
theorem region_any0 {id : Nat} {a : Act} {w : World} {l : List Oper} {D : List Tmp} (hD : ∀ d ∈ D, rd a d = undef) (hm : P.follows .mixedOrders = true) (hok : settledB ops = true) (hl : ops.toList = l)
    (h : SeqR P ops Q ⟨a.tmps.size, a.defers, w, D⟩ l a []) : (Code.region id ops true).wp P Q a w := by
  subst hl
  refine wp_region_any hm ?_
  have hsel : Region.noSelect ops = true := by
    have := hok
    unfold settledB at this
    rw [Bool.and_eq_true, Bool.and_eq_true] at this
    exact this.1.1
  have hsel' := Region.noSelect_spec hsel
  have hsz : ops.toList.length = ops.size := by simp
  have hs := h 0 (by simp) (fun j _ => by simp) rfl rfl (fun x hx => by cases hx) List.nodup_nil (fun o ho cs b => by
    obtain ⟨j, hj⟩ := List.mem_iff_getElem?.1 ho
    exact hsel' j o cs b (by simpa using hj))
  rw [hsz] at hs
  refine any_of_seqS hsel' ops.size (List.range' 0 ops.size) _ (sig a []) a _ (by simp) (List.nodup_range') (by simp) (fun j hj => ?_) ?_ (order_of hok _ _ (by simp)) hs ⟨rfl, rfl, (Below.refl _ _).drew, fun d hd g hg => by (rw [hD d hd] at hg; cases hg), fun d hd d' hd' _ g _ hg => by (rw [hD d hd] at hg; cases hg)⟩ (fun t => rfl) (sig_lasts a [] (fun x hx => by cases hx))
  · have : (Array.replicate ops.size false).getD j true = false := by simp [hj]
    rw [this]
    simp [List.mem_range'_1, hj]
  · intro m o ho e he hb hr
    have := (Array.getElem?_eq_some_iff.1 ho).1
    simp [List.mem_range'_1, this]
/-- One that makes variables of its own (D: where their addresses stand). -/
theorem region_own (D : List Tmp) {id : Nat} {a : Act} {w : World} {l : List Oper} (hD : ∀ d ∈ D, rd a d = undef) (hm : P.follows .mixedOrders = true) (hok : settledB ops = true) (hl : ops = Array.mk l)
    (h : ∀ K, Closed (∀ a' w', Q .normal a' w' → K a' w') → SeqR P ops (NQ K) ⟨a.tmps.size, a.defers, w, D⟩ l a []) : (Code.region id ops true).wp P Q a w :=
  Code.wp_mono (NQ.weak fun _ _ h => h) (region_any0 hD hm hok (by rw [hl]) (h (Q .normal) fun _ _ h => h))
/-- **The region, in the order of its text.** -/
theorem region_any {id : Nat} {a : Act} {w : World} {l : List Oper} (hm : P.follows .mixedOrders = true) (hok : settledB ops = true) (hl : ops = Array.mk l)
    (h : ∀ K, Closed (∀ a' w', Q .normal a' w' → K a' w') → SeqR P ops (NQ K) ⟨a.tmps.size, a.defers, w, []⟩ l a []) : (Code.region id ops true).wp P Q a w :=
  Code.wp_mono (NQ.weak fun _ _ h => h) (region_any0 (D := []) (fun d hd => by cases hd) hm hok (by rw [hl]) (h (Q .normal) fun _ _ h => h))
end

/-- A call that, in every world in which what stood in W is as it was, hands back v and writes nothing that is there. -/
def CallE (P : Program) (W : World) (f : FuncId) (args : Array Value) (v : Value) : Prop := ∀ w, Ext W w → Calls P f args w fun e w' => e = .returned v ∧ Ext w w'
theorem CallE.at_ {P : Program} {W : World} {f : FuncId} {args : Array Value} {v : Value} (h : CallE P W f args v) {w : World} (hb : Ext W w) : Calls P f args w fun e w' => e = .returned v ∧ Ext W w' :=
  (h w hb).mono fun _ _ ⟨he, hb'⟩ => ⟨he, hb.trans hb'⟩
theorem CallE.call {P : Program} {W : World} {f : FuncId} {args : Array Value} {v : Value} (h : CallE P W f args v) {w : World} (hb : Ext W w) : Calls P f args w fun e w' => e = .returned v ∧ Ext w w' := h w hb
theorem CallE.more {P : Program} {W W' : World} {f : FuncId} {args : Array Value} {v : Value} (h : CallE P W f args v) (hE : Ext W W') : CallE P W' f args v := fun w hb => h w (hE.trans hb)
end Go.Proofs.YtffogjhjgmohiaaDoor
