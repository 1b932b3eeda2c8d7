/-
  A region that draws its order and stores whole values into variables whose addresses are known: in the order of its text. Conditions: each theorem's own.
-/
import Derived.Test.YtffogjhjgmohiaaDoorBlocks
namespace Go.Proofs.YtffogjhjgmohiaaDoor
open Go.RowKit
set_option linter.unusedVariables false

/-- Only block g may have changed. -/
def ExtOff (g : Nat) (w w' : World) : Prop := w.heap.size ≤ w'.heap.size ∧ ∀ k, k < w.heap.size → k ≠ g → w'.heap[k]? = w.heap[k]?
/-- What holds of v whatever is stored into blocks from n on. -/
def Firm (n : Nat) (Φ : Value → World → Prop) : Prop := ∀ v w w' g, n ≤ g → ExtOff g w w' → Φ v w → Φ v w'
/-- .. into blocks from n on but v's own. -/
def Off (n : Nat) (Φ : Value → World → Prop) : Prop := ∀ v w w' g, n ≤ g → ExtOff g w w' → v ≠ .pointer (some ⟨g, 0, none⟩) → Φ v w → Φ v w'
theorem Firm.off {n : Nat} {Φ : Value → World → Prop} (h : Firm n Φ) : Off n Φ := fun v w w' g hg hE _ hv => h v w w' g hg hE hv
theorem Is.firm (n : Nat) (v : Value) : Firm n (Is v) := fun _ _ _ _ _ _ h => h
theorem BxOf.off (n b : Nat) (t : TypeId) (cs : Array Value) : Off n (BxOf b t cs) := by
  rintro v w w' g hg hE hne ⟨g', rfl, hb, h⟩
  refine ⟨g', rfl, hb, ?_⟩
  rw [hE.2 g' (Array.getElem?_eq_some_iff.1 h).1 (fun e => hne (by rw [e])), h]
section
variable {P : Program} {ops : Array Oper} {Q : Exit → Act → World → Prop} {B : Base}
def Keeps (B : Base) (t : Tmp) (Φ : Value → World → Prop) : Prop := (t ∈ B.D → Off B.W.heap.size Φ) ∧ (t ∉ B.D → Firm B.W.heap.size Φ)
theorem Keeps.is (t : Tmp) (v : Value) : Keeps B t (Is v) := ⟨fun _ => (Is.firm _ v).off, fun _ => Is.firm _ v⟩
def ClaimS (P : Program) (ops : Array Oper) (B : Base) (o : Oper) (σ : Sig) (Φ : Value → World → Prop) : Prop := Claim P ops B o σ Φ ∧ ∀ d, o.dst = some d → Keeps B d Φ
/-- The operation stores into the variable whose address stands in d. -/
def StoreC (P : Program) (ops : Array Oper) (B : Base) (o : Oper) (σ : Sig) (d : Tmp) (Φ : Value → World → Prop) : Prop :=
  o.dst = none ∧ d ∈ B.D ∧ d ∈ o.looksAt ops ∧ Lasts Φ ∧ Off B.W.heap.size Φ ∧ ∀ a w, B.ok a w → Sat σ (o.looksAt ops) a w → Region.wanted o (yielded ops a.tmps) = true ∧
    ∃ w' g, (execOp a.eval o).run P w = .ok .skip w' ∧ rd a d = .pointer (some ⟨g, 0, none⟩) ∧ B.W.heap.size ≤ g ∧ Ext B.W w' ∧ ExtOff g w w' ∧ Φ (rd a d) w'
/-- Whoever may come on the other side of operation i does not look at d. -/
def Lone (ops : Array Oper) (i : Nat) (d : Tmp) : Prop := ∀ j o, ops[j]? = some o → ((i < j ∧ ¬ Waits ops j i) ∨ (j < i ∧ ¬ Waits ops i j)) → d ∉ o.looksAt ops ∧ o.dst ≠ some d
def StepS (P : Program) (ops : Array Oper) (B : Base) (i : Nat) (x : Option Tmp) (σ : Sig) (Φ : Value → World → Prop) : Prop :=
  ∃ o, ops[i]? = some o ∧ ((x = o.dst ∧ ClaimS P ops B o σ Φ) ∨ ∃ d, x = some d ∧ Lone ops i d ∧ StoreC P ops B o σ d Φ)
theorem StoreC.put {o : Oper} {σ : Sig} {Φ Ψ : Value → World → Prop} {d : Tmp} {y : Option Tmp} (h : ∀ e, y = some e → e ∉ o.looksAt ops) : StoreC P ops B o (σ.put y Ψ) d Φ ↔ StoreC P ops B o σ d Φ := by
  unfold StoreC
  simp only [Sat.put h]
theorem StepS.put {i : Nat} {x y : Option Tmp} {σ : Sig} {Φ Ψ : Value → World → Prop} (h : ∀ o, ops[i]? = some o → ∀ e, y = some e → e ∉ o.looksAt ops) : StepS P ops B i x (σ.put y Ψ) Φ ↔ StepS P ops B i x σ Φ := by
  unfold StepS
  constructor
  · rintro ⟨o, ho, h1⟩
    refine ⟨o, ho, ?_⟩
    rcases h1 with ⟨h1, h2⟩ | ⟨d, h1, h2, h3⟩
    · exact .inl ⟨h1, (Claim.put (h o ho)).1 h2.1, h2.2⟩
    · exact .inr ⟨d, h1, h2, (StoreC.put (h o ho)).1 h3⟩
  · rintro ⟨o, ho, h1⟩
    refine ⟨o, ho, ?_⟩
    rcases h1 with ⟨h1, h2⟩ | ⟨d, h1, h2, h3⟩
    · exact .inl ⟨h1, (Claim.put (h o ho)).2 h2.1, h2.2⟩
    · exact .inr ⟨d, h1, h2, (StoreC.put (h o ho)).2 h3⟩
/-- Two that may change places do not look at what the other turns. -/
theorem StepS.apart {i k : Nat} {x y : Option Tmp} {σ τ : Sig} {Φ Ψ : Value → World → Prop} (hi : StepS P ops B i x σ Φ) (hk : StepS P ops B k y τ Ψ) (hki : k < i) (hw : ¬ Waits ops i k) (ha : Apart ops k i) :
    (∀ o, ops[i]? = some o → ∀ e, y = some e → e ∉ o.looksAt ops) ∧ (∀ e, y = some e → x ≠ some e) ∧ (∀ o, ops[k]? = some o → ∀ e, x = some e → e ∉ o.looksAt ops) := by
  obtain ⟨oi, hoi, hi⟩ := hi
  obtain ⟨ok, hok, hk⟩ := hk
  obtain ⟨h1, h2, h3⟩ := Oper.apart_spec (ha ok oi hok hoi)
  have u1 : ∀ o, ops[i]? = some o → o = oi := fun o h => Option.some.inj (h.symm.trans hoi)
  have u2 : ∀ o, ops[k]? = some o → o = ok := fun o h => Option.some.inj (h.symm.trans hok)
  rcases hi with ⟨rfl, -⟩ | ⟨d, rfl, hl, hs⟩ <;> rcases hk with ⟨rfl, -⟩ | ⟨d', rfl, hl', hs'⟩
  · exact ⟨fun o ho e he => by rw [u1 o ho]; exact h1 e he, h2, fun o ho e he => by rw [u2 o ho]; exact h3 e he⟩
  · have hl2 := hl' i oi hoi (.inl ⟨hki, hw⟩)
    exact ⟨fun o ho e he => by rw [u1 o ho]; cases he; exact hl2.1, fun e he => by cases he; exact hl2.2, fun o ho e he => by rw [u2 o ho]; exact h3 e he⟩
  · have hl2 := hl k ok hok (.inr ⟨hki, hw⟩)
    exact ⟨fun o ho e he => by rw [u1 o ho]; exact h1 e he, fun e he hx => by cases hx; exact hl2.2 he, fun o ho e he => by rw [u2 o ho]; cases he; exact hl2.1⟩
  · have hl2 := hl k ok hok (.inr ⟨hki, hw⟩)
    have hl3 := hl' i oi hoi (.inl ⟨hki, hw⟩)
    exact ⟨fun o ho e he => by rw [u1 o ho]; cases he; exact hl3.1, fun e he hx => by cases he; cases hx; exact hl3.1 hs.2.2.1, fun o ho e he => by rw [u2 o ho]; cases he; exact hl2.1⟩
def SeqT (P : Program) (ops : Array Oper) (Q : Exit → Act → World → Prop) (B : Base) : List Nat → Sig → Prop
  | [], σ => ∀ a w, B.ok a w → (∀ t, σ t (rd a t) w) → Q .normal a w
  | i :: r, σ => (∃ x Φ, StepS P ops B i x σ Φ ∧ SeqT P ops Q B r (σ.put x Φ)) ∨ Tail P ops Q B (i :: r) σ

theorem SeqT.pull (i : Nat) (s : List Nat) : ∀ (p : List Nat) (σ : Sig), (∀ k ∈ p, Apart ops k i ∧ ¬ Waits ops i k ∧ k < ops.size ∧ k ∉ i :: s ∧ k < i) → SeqT P ops Q B (p ++ i :: s) σ →
    (∃ x Φ, StepS P ops B i x σ Φ ∧ SeqT P ops Q B (p ++ s) (σ.put x Φ)) ∨ (p = [] ∧ Tail P ops Q B (i :: s) σ) := by
  intro p
  induction p with
  | nil =>
    intro σ _ h
    rcases h with h | h
    · exact .inl h
    · exact .inr ⟨rfl, h⟩
  | cons k p ih =>
    intro σ hap h
    obtain ⟨hk, hkw, hks, hki, hkl⟩ := hap k List.mem_cons_self
    rcases h with ⟨y, Φk, hck, hr⟩ | ht
    · rcases ih _ (fun k' hk' => hap k' (List.mem_cons_of_mem _ hk')) hr with ⟨x, Φi, hci, hr'⟩ | ⟨rfl, ht⟩
      · obtain ⟨h1, h2, h3⟩ := StepS.apart hci hck hkl hkw hk
        refine .inl ⟨x, Φi, (StepS.put h1).1 hci, .inl ⟨y, Φk, (StepS.put h3).2 hck, ?_⟩⟩
        rw [← Sig.put_comm σ Φk Φi h2]
        exact hr'
      · exact absurd (ht.1 [] i s rfl k hks hki) hkw
    · exact absurd (ht.1 (k :: p) i s rfl k hks hki) hkw

theorem any_of_seqT (hsel : ∀ (j : Nat) (o : Oper) cs b, ops[j]? = some o → o.op ≠ .select cs b) :
    ∀ (fuel : Nat) (r : List Nat) (listed : Array Bool) (σ : Sig) (a : Act) (w : World), r.length = fuel → r.Nodup → listed.size = ops.size → (∀ j, j < ops.size → (listed.getD j true = false ↔ j ∈ r)) →
      Up ops r → Order ops r → SeqT P ops Q B r σ → r.Pairwise (· < ·) → B.ok a w → (∀ t, σ t (rd a t) w) → (∀ t, Lasts (σ t)) → (∀ t, Keeps B t (σ t)) → wpAny P .any ops Q fuel listed a w := by
  intro fuel
  induction fuel with
  | zero =>
    intro r listed σ a w hl _ hz hr _ _ hs _ hB hσ _ _
    obtain rfl := List.length_eq_zero_iff.1 hl
    refine ⟨?_, hs a w hB hσ⟩
    cases hd : Region.ready .any ops listed with
    | nil => rfl
    | cons j t =>
      have hj : j ∈ Region.ready .any ops listed := by rw [hd]; exact List.mem_cons_self
      obtain ⟨hju, oj, hoj, _⟩ := mem_ready.1 hj
      have := (hr j (Array.getElem?_eq_some_iff.1 hoj).1).1 hju
      cases this
  | succ fuel ih =>
    intro r listed σ a w hl hn hz hr hu ho hs hpw hB hσ hlast hkeep
    refine ⟨fun h0 => ?_, fun i hi => ?_⟩
    · cases r with
      | nil => simp at hl
      | cons i r =>
        exfalso
        have hoi : ops[i]? = some (ops[i]'ho.1) := Array.getElem?_eq_getElem ho.1
        have : i ∈ Region.ready .any ops listed := by
          refine mem_ready.2 ⟨(hr i ho.1).2 List.mem_cons_self, _, hoi, fun e he hb => ?_⟩
          obtain ⟨hno, hlt⟩ := ho.2.1 _ hoi e he hb
          cases hv : listed.getD e.on false with
          | true => rfl
          | false => exact absurd ((hr _ hlt).1 (by rw [getD_in (by rw [hz]; exact hlt)]; exact hv)) hno
        rw [h0] at this
        cases this
    · obtain ⟨hiu, oi, hoi, hall⟩ := mem_ready.1 hi
      have hii := (Array.getElem?_eq_some_iff.1 hoi).1
      obtain ⟨p, s, rfl⟩ := List.append_of_mem ((hr i hii).1 hiu)
      have hnot : i ∉ p ++ s := by
        have := hn
        rw [List.nodup_append] at this
        obtain ⟨_, h2, h3⟩ := this
        simp only [List.mem_append, not_or]
        exact ⟨fun h => h3 i h i List.mem_cons_self rfl, (List.nodup_cons.1 h2).1⟩
      have hnw : ∀ k ∈ p ++ i :: s, ¬ Waits ops i k := fun k hk h => by
        obtain ⟨o', ho', e, he, hb, hm⟩ := hu.waits h hk
        obtain rfl : o' = oi := Option.some.inj (ho'.symm.trans hoi)
        have hlt := ho.lt _ e.on hm
        have h1 := (hr _ hlt).2 hm
        rw [getD_in (by rw [hz]; exact hlt), hall e he hb] at h1
        cases h1
      have hap : ∀ k ∈ p, Apart ops k i ∧ ¬ Waits ops i k ∧ k < ops.size ∧ k ∉ i :: s ∧ k < i := fun k hk => by
        have hkm : k ∈ p ++ i :: s := List.mem_append_left _ hk
        refine ⟨?_, hnw k hkm, ho.lt _ k hkm, fun e => by have := hn; rw [List.nodup_append] at this; exact this.2.2 k hk k e rfl, (List.pairwise_append.1 hpw).2.2 k hk i List.mem_cons_self⟩
        rcases ho.ahead p i s k hk with h | h
        · exact h
        · exact absurd h (hnw k hkm)
      have go : ∀ σ' a' w', SeqT P ops Q B (p ++ s) σ' → B.ok a' w' → (∀ t, σ' t (rd a' t) w') → (∀ t, Lasts (σ' t)) → (∀ t, Keeps B t (σ' t)) → wpAny P .any ops Q fuel (listed.setIfInBounds i true) a' w' := by
        intro σ' a' w' hrest hB' hσ' hl' hk'
        refine ih (p ++ s) _ σ' _ _ ?_ ?_ ?_ ?_ ?_ (ho.sub p i s) hrest (hpw.sublist (List.Sublist.append_left (List.sublist_cons_self i s) p)) hB' hσ' hl' hk'
        · simp only [List.length_append, List.length_cons] at hl ⊢; omega
        · exact hn.sublist (List.Sublist.append_left (List.sublist_cons_self i s) p)
        · rw [Array.size_setIfInBounds, hz]
        · intro j hj
          by_cases hji : i = j
          · subst hji
            refine ⟨fun h => ?_, fun h => absurd h hnot⟩
            rw [getD_set_same (by rw [hz]; exact hii)] at h
            cases h
          · rw [getD_set_ne true hji, hr j hj]
            simp only [List.mem_append, List.mem_cons]
            constructor
            · rintro (h | h | h)
              · exact .inl h
              · exact absurd h.symm hji
              · exact .inr h
            · rintro (h | h)
              · exact .inl h
              · exact .inr (.inr h)
        · intro m om hom e he hb hm
          have hm' : e.on ∈ p ++ i :: s := by
            simp only [List.mem_append, List.mem_cons] at hm ⊢
            rcases hm with h | h
            · exact .inl h
            · exact .inr (.inr h)
          have hin := hu m om hom e he hb hm'
          have hmi : m ≠ i := by
            rintro rfl
            exact hnw _ hm' (.one hom he hb)
          simp only [List.mem_append, List.mem_cons] at hin ⊢
          rcases hin with h | h | h
          · exact .inl h
          · exact absurd h hmi
          · exact .inr h
      rcases SeqT.pull i s p σ hap hs with ⟨x, Φ, ⟨o, ho', hst⟩, hrest⟩ | ⟨rfl, ht⟩
      · obtain rfl : o = oi := Option.some.inj (ho'.symm.trans hoi)
        rcases hst with ⟨rfl, ⟨hd, hΦ, hcl⟩, hkp⟩ | ⟨d, rfl, hlone, hdn, hdD, hdl, hΦ, hoff, hst⟩
        · have next : ∀ v w', Ext w w' → Φ v w' → (∀ d, o.dst = some d → d ∈ B.D → (v = .pointer (some ⟨w.heap.size, 0, none⟩) ∧ w.heap.size < w'.heap.size) ∨ ∀ g, v ≠ .pointer (some ⟨g, 0, none⟩)) → wpAny P .any ops Q fuel (listed.setIfInBounds i true) (a.put o.dst v) w' := by
            intro v w' hE hv hnew
            refine go (σ.put o.dst Φ) _ _ hrest ?_ ?_ ?_ ?_
            · obtain ⟨b1, b2, b3, b4⟩ := hB
              refine ⟨?_, ?_, b3.trans hE, apt_put b4 (Below.size hE) (fun d e => by rw [b1]; exact hd d e) hnew⟩
              · cases hdst : o.dst <;> simp [Act.put, b1]
              · cases hdst : o.dst <;> simp [Act.put, b2]
            · intro t
              cases hdst : o.dst with
              | none => exact hlast t _ _ _ (hσ t) hE
              | some d =>
                have hdn := hd d hdst
                by_cases htd : t = d
                · subst htd
                  have e1 : rd (a.put (some t) v) t = v := by simp [rd, Act.put, hB.1, hdn]
                  rw [e1]
                  show (if t = t then Φ else σ t) v w'
                  rw [if_pos rfl]
                  exact hv
                · have e1 : rd (a.put (some d) v) t = rd a t := by
                    show (a.tmps.setIfInBounds d v).getD t undef = a.tmps.getD t undef
                    rw [Array.getD_eq_getD_getElem?, Array.getD_eq_getD_getElem?, Array.getElem?_setIfInBounds_ne (fun e => htd e.symm)]
                  rw [e1]
                  show (if t = d then Φ else σ t) _ w'
                  rw [if_neg htd]
                  exact hlast t _ _ _ (hσ t) hE
            · intro t
              cases hdst : o.dst with
              | none => exact hlast t
              | some d =>
                show Lasts (if t = d then Φ else σ t)
                by_cases htd : t = d
                · rw [if_pos htd]; exact hΦ
                · rw [if_neg htd]; exact hlast t
            · intro t
              cases hdst : o.dst with
              | none => exact hkeep t
              | some d =>
                show Keeps B t (if t = d then Φ else σ t)
                by_cases htd : t = d
                · rw [if_pos htd, htd]; exact hkp d hdst
                · rw [if_neg htd]; exact hkeep t
          unfold wpOp
          simp only [hoi]
          rcases hcl with hcl | hcl
          · obtain ⟨hw, ho⟩ := hcl a w hB fun t _ => hσ t
            simp only [hw, if_true]
            refine .inl ?_
            unfold Oper.wp
            rcases ho with ⟨v, w', hrun, hE, hv, hnw'⟩ | ⟨f, args, w', hrun, hE, hnd, hc⟩
            · rw [hrun]; exact next v w' hE hv fun d e hm => .inl (hnw' d e hm)
            · rw [hrun, Oper.upon_enter]
              refine hc.mono ?_
              rintro e w'' ⟨v, rfl, hE', hv⟩
              exact next v w'' (hE.trans hE') hv fun d e hm => absurd hm (hnd d e)
          · obtain ⟨hw, hv⟩ := hcl a w hB fun t _ => hσ t
            simp only [hw, Bool.false_eq_true, if_false]
            exact next undef w (Ext.refl _) hv fun _ _ _ => .inr fun g e => by cases e
        · obtain ⟨hw, w', g, hrun, hrd, hg, hEW, hEO, hv⟩ := hst a w hB fun t _ => hσ t
          unfold wpOp
          simp only [hoi, hw, if_true]
          refine .inl ?_
          unfold Oper.wp
          rw [hrun]
          show wpAny P .any ops Q fuel (listed.setIfInBounds i true) (a.put o.dst undef) w'
          rw [hdn]
          refine go _ a w' hrest ⟨hB.1, hB.2.1, hEW, fun d' hd' g' hg' => Nat.lt_of_lt_of_le (hB.2.2.2.1 d' hd' g' hg') hEO.1, hB.2.2.2.2⟩ ?_ ?_ ?_
          · intro t
            show (if t = d then Φ else σ t) (rd a t) w'
            by_cases htd : t = d
            · rw [if_pos htd, htd]; exact hv
            · rw [if_neg htd]
              by_cases htD : t ∈ B.D
              · exact (hkeep t).1 htD _ _ _ g hg hEO (hB.2.2.2.2 d hdD t htD (fun e => htd e.symm) g hg hrd) (hσ t)
              · exact (hkeep t).2 htD _ _ _ g hg hEO (hσ t)
          · intro t
            show Lasts (if t = d then Φ else σ t)
            by_cases htd : t = d
            · rw [if_pos htd]; exact hΦ
            · rw [if_neg htd]; exact hlast t
          · intro t
            show Keeps B t (if t = d then Φ else σ t)
            by_cases htd : t = d
            · rw [if_pos htd, htd]; exact ⟨fun _ => hoff, fun h => absurd hdD h⟩
            · rw [if_neg htd]; exact hkeep t
      · have hall := any_of_tail (P := P) (Q := Q) (i :: s) listed a w ht.1 hn hz hr hu (ho.lt _) ho (ht.2 a w hB hσ)
        rw [show (i :: s).length = fuel + 1 from hl] at hall
        exact hall.2 i hi

def SeqU (P : Program) (ops : Array Oper) (Q : Exit → Act → World → Prop) (B : Base) (l : List Oper) (a : Act) (R : List (Tmp × (Value → World → Prop))) : Prop :=
  ∀ k, k + l.length = ops.size → (∀ j, j < l.length → ops[k + j]? = l[j]?) → a.tmps.size = B.n → a.defers = B.ds → (∀ x ∈ R, x.1 < a.tmps.size) → (tmps R).Nodup → (∀ o ∈ l, ∀ cs b, o.op ≠ .select cs b) →
    SeqT P ops Q B (List.range' k l.length) (sig a R)

theorem SeqU.step {o : Oper} {l : List Oper} {a a' : Act} {R R' : List (Tmp × (Value → World → Prop))} {Φ : Value → World → Prop}
    (hc : a.tmps.size = B.n → a.defers = B.ds → (∀ x ∈ R, x.1 < a.tmps.size) → (tmps R).Nodup → (∀ cs b, o.op ≠ .select cs b) →
      ClaimS P ops B o (sig a R) Φ ∧ (sig a R).put o.dst Φ = sig a' R' ∧ a'.tmps.size = a.tmps.size ∧ a'.defers = a.defers ∧ (∀ x ∈ R', x.1 < a.tmps.size) ∧ (tmps R').Nodup)
    (h : SeqU P ops Q B l a' R') : SeqU P ops Q B (o :: l) a R := by
  intro k hk hat hz hd hb hn hs
  obtain ⟨c1, c2, c3, c4, c5, c6⟩ := hc hz hd hb hn (hs o List.mem_cons_self)
  refine .inl ⟨o.dst, Φ, ⟨o, by have := hat 0 (by simp); simpa using this, .inl ⟨rfl, c1⟩⟩, ?_⟩
  rw [c2]
  refine h (k + 1) (by simp only [List.length_cons] at hk; omega) (fun j hj => ?_) (c3.trans hz) (c4.trans hd) (fun x hx => by rw [c3]; exact c5 x hx) c6 (fun o' ho' => hs o' (List.mem_cons_of_mem _ ho'))
  have := hat (j + 1) (by simp only [List.length_cons]; omega)
  rw [show k + 1 + j = k + (j + 1) by omega, this]
  simp
section
variable {n : Nat} {ds : List Deferred} {W : World} {D : List Tmp}
variable {o : Oper} {l : List Oper} {a : Act} {R : List (Tmp × (Value → World → Prop))}
/-- An operation that is not wanted. -/
theorem sequ_skip (hf0 : fresh o.dst (tmps R ++ D) a.tmps.size = true) (hw : ∀ ρ, Region.wanted o (yielded ops (fill a ρ R).tmps) = false) (h : SeqU P ops Q ⟨n, ds, W, D⟩ l (a.put o.dst undef) R) : SeqU P ops Q ⟨n, ds, W, D⟩ (o :: l) a R := by
  obtain ⟨hf, hfD⟩ := fresh_split hf0
  refine SeqU.step (Φ := Is undef) (fun hz hd hb hn hs => ⟨⟨claim_of hz hb hn hs (fun d e => hz ▸ fresh_lt hf d e) (Is.lasts _) (.inr fun ρ w _ _ => ⟨hw ρ, rfl⟩), fun d _ => Keeps.is d _⟩, put_is hf, put_size _ _ _, put_defers _ _ _, hb, hn⟩) h
/-- One that yields v, and writes nothing. -/
theorem sequ_pure {v : Value} (hf0 : fresh o.dst (tmps R ++ D) a.tmps.size = true) (hw : ∀ ρ, Region.wanted o (yielded ops (fill a ρ R).tmps) = true)
    (hv : ∀ ρ w, Ext W w → Facts R (o.looksAt ops) ρ w → (execOp (fill a ρ R).eval o).run P w = .ok (.value v) w) (h : SeqU P ops Q ⟨n, ds, W, D⟩ l (a.put o.dst v) R) : SeqU P ops Q ⟨n, ds, W, D⟩ (o :: l) a R := by
  obtain ⟨hf, hfD⟩ := fresh_split hf0
  refine SeqU.step (Φ := Is v) (fun hz hd hb hn hs => ⟨⟨claim_of hz hb hn hs (fun d e => hz ▸ fresh_lt hf d e) (Is.lasts _) (.inl fun ρ w hE hF => ⟨hw ρ, .inl ⟨v, w, hv ρ w hE hF, Ext.refl _, rfl, fun d e hm => absurd hm (hfD d e)⟩⟩), fun d _ => Keeps.is d _⟩, put_is hf, put_size _ _ _, put_defers _ _ _, hb, hn⟩) h
/-- A call that hands back v. -/
theorem sequ_call {v : Value} {f : FuncId} {args : (Tmp → Value) → Array Value} (hf0 : fresh o.dst (tmps R ++ D) a.tmps.size = true) (hw : ∀ ρ, Region.wanted o (yielded ops (fill a ρ R).tmps) = true)
    (hv : ∀ ρ w, (execOp (fill a ρ R).eval o).run P w = .ok (.enter f (args ρ)) w)
    (hc : ∀ ρ w, Ext W w → Facts R (o.looksAt ops) ρ w → Calls P f (args ρ) w fun e w' => e = .returned v ∧ Ext w w')
    (h : SeqU P ops Q ⟨n, ds, W, D⟩ l (a.put o.dst v) R) : SeqU P ops Q ⟨n, ds, W, D⟩ (o :: l) a R := by
  obtain ⟨hf, hfD⟩ := fresh_split hf0
  refine SeqU.step (Φ := Is v) (fun hz hd hb hn hs => ⟨⟨claim_of hz hb hn hs (fun d e => hz ▸ fresh_lt hf d e) (Is.lasts _) (.inl fun ρ w hE hF => ⟨hw ρ, .inr ⟨f, args ρ, w, hv ρ w, Ext.refl _, hfD, ?_⟩⟩), fun d _ => Keeps.is d _⟩, put_is hf, put_size _ _ _, put_defers _ _ _, hb, hn⟩) h
  exact (hc ρ w hE hF).mono fun e w' ⟨he, hE'⟩ => ⟨v, he, hE', rfl⟩
theorem sequ_call0 {v : Value} {f : FuncId} {args : Array Value} (hf0 : fresh o.dst (tmps R ++ D) a.tmps.size = true) (hw : ∀ ρ, Region.wanted o (yielded ops (fill a ρ R).tmps) = true)
    (hv : ∀ ρ w, (execOp (fill a ρ R).eval o).run P w = .ok (.enter f args) w)
    (hc : ∀ w, Ext W w → Calls P f args w fun e w' => e = .returned v ∧ Ext w w')
    (h : SeqU P ops Q ⟨n, ds, W, D⟩ l (a.put o.dst v) R) : SeqU P ops Q ⟨n, ds, W, D⟩ (o :: l) a R :=
  sequ_call (args := fun _ => args) hf0 hw hv (fun _ w hE _ => hc w hE) h
/-- One of whose value a property is told. -/
theorem sequ_rel {d : Tmp} (Φ : Value → World → Prop) (hΦ : Lasts Φ) (hfm : Firm W.heap.size Φ) (hdst : o.dst = some d) (hf0 : fresh (some d) (tmps R ++ D) a.tmps.size = true) (hw : ∀ ρ, Region.wanted o (yielded ops (fill a ρ R).tmps) = true)
    (ho : ∀ ρ w, Ext W w → Facts R (o.looksAt ops) ρ w → Outcome P [] o (fill a ρ R) w Φ) (h : SeqU P ops Q ⟨n, ds, W, D⟩ l a ((d, Φ) :: R)) : SeqU P ops Q ⟨n, ds, W, D⟩ (o :: l) a R := by
  obtain ⟨hf, hfD⟩ := fresh_split hf0
  refine SeqU.step (Φ := Φ) (fun hz hd hb hn hs => ⟨⟨claim_of hz hb hn hs (fun d' e => hz ▸ fresh_lt hf d' (by rw [← hdst, e])) hΦ (.inl fun ρ w hE hF => ⟨hw ρ, (ho ρ w hE hF).more fun d' e hm => hfD d' (by rw [← hdst, e]) hm⟩), fun d _ => ⟨fun _ => hfm.off, fun _ => hfm⟩⟩, by rw [hdst]; rfl, rfl, rfl, ?_, ?_⟩) h
  · intro x hx
    rcases List.mem_cons.1 hx with rfl | hx
    · exact fresh_lt hf _ rfl
    · exact hb x hx
  · simp only [fresh, Bool.and_eq_true, decide_eq_true_eq, Bool.not_eq_true', List.contains_eq_mem, decide_eq_false_iff_not] at hf
    exact List.nodup_cons.2 ⟨hf.2, hn⟩
theorem sequ_own {d : Tmp} (t : TypeId) (cs : Array Value) (hdst : o.dst = some d) (hdD : d ∈ D) (hf : fresh (some d) (tmps R) a.tmps.size = true) (hw : ∀ ρ, Region.wanted o (yielded ops (fill a ρ R).tmps) = true)
    (ho : ∀ ρ w, Ext W w → Facts R (o.looksAt ops) ρ w → (execOp (fill a ρ R).eval o).run P w = .ok (.value (.pointer (some ⟨w.heap.size, 0, none⟩))) (w.alloc (.cells cs t)))
    (h : SeqU P ops Q ⟨n, ds, W, D⟩ l a ((d, BxOf W.heap.size t cs) :: R)) : SeqU P ops Q ⟨n, ds, W, D⟩ (o :: l) a R := by
  refine SeqU.step (Φ := BxOf W.heap.size t cs) (fun hz hd hb hn hs => ⟨⟨claim_of hz hb hn hs (fun d' e => hz ▸ fresh_lt hf d' (by rw [← hdst, e])) (BxOf.lasts _ _ _)
    (.inl fun ρ w hE hF => ⟨hw ρ, .inl ⟨_, _, ho ρ w hE hF, (Below.refl _ _).alloc (Nat.le_refl _) _, ⟨w.heap.size, rfl, Below.size hE, by show (w.heap.push _)[w.heap.size]? = _; simp⟩, fun d' e hm => ⟨rfl, by simp⟩⟩⟩), fun d' e => by rw [hdst] at e; cases e; exact ⟨fun _ => BxOf.off _ _ _ _, fun h => absurd hdD h⟩⟩, by rw [hdst]; rfl, rfl, rfl, ?_, ?_⟩) h
  · intro x hx
    rcases List.mem_cons.1 hx with rfl | hx
    · exact fresh_lt hf _ rfl
    · exact hb x hx
  · simp only [fresh, Bool.and_eq_true, decide_eq_true_eq, Bool.not_eq_true', List.contains_eq_mem, decide_eq_false_iff_not] at hf
    exact List.nodup_cons.2 ⟨hf.2, hn⟩
theorem sequ_done (h : ∀ ρ w, Ext W w → (∀ x ∈ R, x.2 (ρ x.1) w) → Q .normal (fill a ρ R) w) : SeqU P ops Q ⟨n, ds, W, D⟩ [] a R := by
  intro k hk hat hz hd hb hn hs a' w hB hσ
  have e : a' = fill a (rd a') R := by
    have h1 : a'.tmps.size = (fill a (rd a') R).tmps.size := by rw [fill_size, hB.1, hz]
    have h2 : a'.defers = (fill a (rd a') R).defers := by rw [fill_defers, hB.2.1, hd]
    have h3 : a'.tmps = (fill a (rd a') R).tmps := by
      refine Array.ext h1 fun t ht ht' => ?_
      have this : a'.tmps.getD t undef = (fill a (rd a') R).tmps.getD t undef := rd_fill R hb (hσ t)
      rw [Array.getD_eq_getD_getElem?, Array.getD_eq_getD_getElem?, Array.getElem?_eq_getElem ht, Array.getElem?_eq_getElem ht'] at this
      exact this
    cases a'
    cases hf : fill a (rd _) R
    rw [hf] at h2 h3
    simp only at h2 h3
    rw [h2, h3]
  rw [e]
  refine h (rd a') w hB.2.2.1 fun x hx => ?_
  have := hσ x.1
  rwa [sig_at R hn x hx] at this
/-- The last operations, each of which waits for all that stand ahead of it, whatever they do. -/
theorem sequ_tails (hall : tailsB ops (l.length + 1) = true)
    (h : ∀ ρ w, Ext W w → (∀ x ∈ R, x.2 (ρ x.1) w) → Apt D W (fill a ρ R) w → wpList P ops Q (o :: l) (fill a ρ R) w) : SeqU P ops Q ⟨n, ds, W, D⟩ (o :: l) a R := by
  intro k hk hat hz hd hb hn hs
  refine .inr ⟨fun p i s hps k' hk1 hk2 => ?_, fun a' w hB hσ => ?_⟩
  · have hps' : List.range' k (o :: l).length = p ++ i :: s := hps
    have hdr : (List.range' k (o :: l).length).drop p.length = i :: s := by rw [hps']; simp
    rw [List.drop_range'] at hdr
    have hpl : p.length < (o :: l).length := by
      have := congrArg List.length hps'
      simp only [List.length_range', List.length_append, List.length_cons] at this ⊢
      omega
    have hi : i = k + p.length := by
      have := congrArg List.head? hdr
      rw [List.head?_range', if_neg (by omega)] at this
      simp at this
      omega
    have hmem : ∀ x, x ∈ i :: s ↔ k + p.length ≤ x ∧ x < k + p.length + ((o :: l).length - p.length) := fun x => by
      rw [← hdr]; simp [List.mem_range'_1]
    have hlt : k' < i := by
      have h1 := mt (hmem k').2 hk2
      omega
    exact tailsB_at hall (by omega) (by simp only [List.length_cons] at hk; omega) k' hlt
  · have e : a' = fill a (rd a') R := by
      have h1 : a'.tmps.size = (fill a (rd a') R).tmps.size := by rw [fill_size, hB.1, hz]
      have h2 : a'.defers = (fill a (rd a') R).defers := by rw [fill_defers, hB.2.1, hd]
      have h3 : a'.tmps = (fill a (rd a') R).tmps := by
        refine Array.ext h1 fun t ht ht' => ?_
        have this : a'.tmps.getD t undef = (fill a (rd a') R).tmps.getD t undef := rd_fill R hb (hσ t)
        rw [Array.getD_eq_getD_getElem?, Array.getD_eq_getD_getElem?, Array.getElem?_eq_getElem ht, Array.getElem?_eq_getElem ht'] at this
        exact this
      cases a'
      cases hf : fill a (rd _) R
      rw [hf] at h2 h3
      simp only at h2 h3
      rw [h2, h3]
    have hf : ∀ x ∈ R, x.2 (rd a' x.1) w := fun x hx => by
      have := hσ x.1
      rwa [sig_at R hn x hx] at this
    have hwl : wpOps P ops Q (List.range' k (o :: l).length) = wpList P ops Q (o :: l) := wpOps_eq_wpList (o :: l) k (fun j => by
      by_cases hj : j < (o :: l).length
      · exact (hat j hj).symm
      · rw [List.getElem?_eq_none (by omega), Array.getElem?_eq_none (by omega)])
    show wpOps P ops Q (List.range' k (o :: l).length) a' w
    have hap : Apt D W (fill a (rd a') R) w := by rw [← e]; exact hB.2.2.2
    rw [hwl, e]
    exact h (rd a') w hB.2.2.1 hf hap

def loneB (ops : Array Oper) (i : Nat) (d : Tmp) : Bool := (List.range ops.size).all fun j => j == i || (if i < j then ((befs ops.toList #[]).getD j 0).testBit i else ((befs ops.toList #[]).getD i 0).testBit j) ||
  (match ops[j]? with | some o => !(o.looksAt ops).contains d && !(o.dst == some d) | none => true)
theorem befs_at {j k : Nat} (h : ((befs ops.toList #[]).getD j 0).testBit k = true) : Waits ops j k :=
  befs_waits ops ops.toList #[] (by simp) (fun j _ => by simp) (fun j k h => by simp at h) j k h
theorem lone_of {i : Nat} {d : Tmp} (h : loneB ops i d = true) : Lone ops i d := by
  intro j o ho hc
  have h1 := List.all_eq_true.1 h j (List.mem_range.2 (Array.getElem?_eq_some_iff.1 ho).1)
  rw [Bool.or_eq_true, Bool.or_eq_true] at h1
  rcases h1 with (h1 | h1) | h1
  · exfalso
    have := beq_iff_eq.1 h1
    rcases hc with hc | hc <;> omega
  · exfalso
    rcases hc with ⟨hlt, hw⟩ | ⟨hlt, hw⟩
    · rw [if_pos hlt] at h1; exact hw (befs_at h1)
    · rw [if_neg (by omega)] at h1; exact hw (befs_at h1)
  · rw [ho] at h1
    simp only [Bool.and_eq_true, Bool.not_eq_true', List.contains_eq_mem, decide_eq_false_iff_not, beq_eq_false_iff_ne, ne_eq] at h1
    exact h1
/-- The facts, one of them another. -/
def upd (d : Tmp) (Φ : Value → World → Prop) : List (Tmp × (Value → World → Prop)) → List (Tmp × (Value → World → Prop))
  | [] => []
  | (e, Ψ) :: R => if e = d then (e, Φ) :: R else (e, Ψ) :: upd d Φ R
theorem upd_tmps (d : Tmp) (Φ : Value → World → Prop) : ∀ R, tmps (upd d Φ R) = tmps R := by
  intro R
  induction R with
  | nil => rfl
  | cons x R ih =>
    obtain ⟨e, Ψ⟩ := x
    unfold upd
    by_cases h : e = d
    · rw [if_pos h]; rfl
    · rw [if_neg h]; show e :: tmps (upd d Φ R) = e :: tmps R; rw [ih]
theorem upd_sig (a : Act) (d : Tmp) (Φ : Value → World → Prop) : ∀ R, d ∈ tmps R → (sig a R).put (some d) Φ = sig a (upd d Φ R) := by
  intro R
  induction R with
  | nil => intro h; cases h
  | cons x R ih =>
    obtain ⟨e, Ψ⟩ := x
    intro h
    unfold upd
    by_cases he : e = d
    · subst he
      rw [if_pos rfl]
      funext t
      show (if t = e then Φ else if t = e then Ψ else sig a R t) = (if t = e then Φ else sig a R t)
      by_cases ht : t = e
      · rw [if_pos ht, if_pos ht]
      · rw [if_neg ht, if_neg ht, if_neg ht]
    · rw [if_neg he]
      have hm : d ∈ tmps R := by
        rcases List.mem_cons.1 h with h | h
        · exact absurd h.symm he
        · exact h
      show ((sig a R).put (some e) Ψ).put (some d) Φ = (sig a (upd d Φ R)).put (some e) Ψ
      rw [← ih hm, Sig.put_comm]
      intro d' h1 h2
      cases h1; cases h2; exact he rfl
theorem upd_fst {d : Tmp} {Φ : Value → World → Prop} {R : List (Tmp × (Value → World → Prop))} {n : Nat} (h : ∀ x ∈ R, x.1 < n) : ∀ x ∈ upd d Φ R, x.1 < n := by
  intro x hx
  have : x.1 ∈ tmps (upd d Φ R) := List.mem_map_of_mem hx
  rw [upd_tmps] at this
  obtain ⟨y, hy, e⟩ := List.mem_map.1 this
  rw [← e]; exact h y hy
theorem run_store_op {o : Oper} {a : Act} {w w' : World} (ty : TypeId) (x y : Operand) (ho : o.op = .store ty x y) {p : Addr} {v : Value} (hx : a.eval x = .pointer (some p)) (hy : a.eval y = v)
    (h : (storeVar ty p v).run P w = .ok () w') : (execOp a.eval o).run P w = .ok .skip w' := by
  unfold execOp
  simp only [ho, hx, hy, Instr.storeAt, Instr.sureAddr, Sem.run_bind, Sem.run_pure, Result.andThen_ok, h]
theorem rd_eval {a : Act} (d : Tmp) : a.eval (.tmp d) = rd a d := rfl
theorem rd_fill_at {a : Act} {ρ : Tmp → Value} : ∀ R : List (Tmp × (Value → World → Prop)), (∀ x ∈ R, x.1 < a.tmps.size) → (tmps R).Nodup → ∀ d ∈ tmps R, rd (fill a ρ R) d = ρ d := by
  intro R
  induction R with
  | nil => intro _ _ d hd; cases hd
  | cons x R ih =>
    intro hb hn d hd
    show rd ((fill a ρ R).put (some x.1) (ρ x.1)) d = _
    rw [rd_put (by rw [fill_size]; exact hb x List.mem_cons_self)]
    by_cases h : d = x.1
    · rw [if_pos h, h]
    · rw [if_neg h]
      rcases List.mem_cons.1 hd with h' | h'
      · exact absurd h' h
      · exact ih (fun y hy => hb y (List.mem_cons_of_mem _ hy)) (List.nodup_cons.1 hn).2 d h'
/-- A whole value is stored into a variable whose block is known. -/
theorem sequ_store {d : Tmp} {ty : TypeId} {y : Operand} {t : TypeId} {old cells : Array Value} (ho : o.op = .store ty (.tmp d) y) (hdst : o.dst = none) (hg : o.guard = none) (hdD : d ∈ D) (hm : (d, BxOf W.heap.size t old) ∈ R)
    (i : Nat) (hi : i + (l.length + 1) = ops.size) (hl : loneB ops i d = true)
    (hy : ∀ ρ, (fill a ρ R).eval y = .agg cells) (hsz : (P.info? ty).map (·.size) = some cells.size) (hold : old.size = cells.size) (h1 : cells.toList.all (·.oneCell') = true)
    (h : SeqU P ops Q ⟨n, ds, W, D⟩ l a (upd d (BxOf W.heap.size t cells) R)) : SeqU P ops Q ⟨n, ds, W, D⟩ (o :: l) a R := by
  intro k hk hat hz hd hb hn hs
  have hki : k = i := by simp only [List.length_cons] at hk; omega
  subst hki
  have hoi : ops[k]? = some o := by have := hat 0 (by simp); simpa using this
  have hlook : d ∈ o.looksAt ops := by
    have : (Operand.tmp d) ∈ o.op.operands := by rw [ho]; simp [Op.operands]
    exact List.mem_append_left _ (List.mem_filterMap.2 ⟨.tmp d, by simpa using this, rfl⟩)
  refine .inl ⟨some d, BxOf W.heap.size t cells, ⟨o, hoi, .inr ⟨d, rfl, lone_of hl, hdst, hdD, hlook, BxOf.lasts _ _ _, BxOf.off _ _ _ _, ?_⟩⟩, ?_⟩
  · intro a' w hB hS
    refine ⟨by unfold Region.wanted; rw [hg], ?_⟩
    have hmt : d ∈ tmps R := List.mem_map_of_mem hm
    have hf := hS d hlook
    rw [sig_at R hn _ hm] at hf
    obtain ⟨g, hp, hgl, hgb⟩ := hf
    have hey : a'.eval y = .agg cells := by
      rw [← hy (rd a')]
      refine eval_rd fun t ht => rd_fill R hb (hS t ?_)
      subst ht
      have : (Operand.tmp t) ∈ o.op.operands := by rw [ho]; simp [Op.operands]
      exact List.mem_append_left _ (List.mem_filterMap.2 ⟨.tmp t, by simpa using this, rfl⟩)
    refine ⟨w.setRow g cells, g, run_store_op ty _ y ho (p := ⟨g, 0, none⟩) (by rw [rd_eval]; exact hp) hey (run_storeVar_row w g t ty old cells hgb hsz hold (by rw [← Array.all_toList]; exact h1)), hp, hgl, below_row hB.2.2.1 hgl, ⟨by rw [size_setRow]; exact Nat.le_refl _, fun b hb' hne => hq_row hne⟩, ⟨g, hp, hgl, by rw [hq_same rfl, hgb]; rfl⟩⟩
  · rw [upd_sig a d _ R (List.mem_map_of_mem hm)]
    refine h (k + 1) (by simp only [List.length_cons] at hk; omega) (fun j hj => ?_) hz hd (upd_fst hb) (by rw [upd_tmps]; exact hn) (fun o' ho' => hs o' (List.mem_cons_of_mem _ ho'))
    have := hat (j + 1) (by simp only [List.length_cons]; omega)
    rw [show k + 1 + j = k + (j + 1) by omega, this]
    simp
end
/-- **A region that stores into variables that are known: in the order of its text.** W: the world ahead of these variables; R: what their slots hold. -/
theorem region_store {id : Nat} {a : Act} {w : World} {l : List Oper} (W : World) (D : List Tmp) (R : List (Tmp × (Value → World → Prop))) (hE : Ext W w) (hap : Apt D W a w) (hR : ∀ x ∈ R, x.1 < a.tmps.size ∧ x.1 ∈ D ∧ Lasts x.2 ∧ Off W.heap.size x.2 ∧ x.2 (rd a x.1) w) (hn : (tmps R).Nodup)
    (hm : P.follows .mixedOrders = true) (hok : settledB ops = true) (hl : ops = Array.mk l)
    (h : ∀ K, Closed (∀ a' w', Q .normal a' w' → K a' w') → SeqU P ops (NQ K) ⟨a.tmps.size, a.defers, W, D⟩ l a R) : (Code.region id ops true).wp P Q a w := by
  refine Code.wp_mono (NQ.weak fun _ _ h => h) ?_
  replace h := h (Q .normal) fun _ _ h => h
  replace hl : ops.toList = l := by rw [hl]
  subst hl
  refine wp_region_any hm ?_
  have hsel : Region.noSelect ops = true := by
    have := hok
    unfold settledB at this
    rw [Bool.and_eq_true, Bool.and_eq_true] at this
    exact this.1.1
  have hsel' := Region.noSelect_spec hsel
  have hsz : ops.toList.length = ops.size := by simp
  have hs := h 0 (by simp) (fun j _ => by simp) rfl rfl (fun x hx => (hR x hx).1) hn (fun o ho cs b => by
    obtain ⟨j, hj⟩ := List.mem_iff_getElem?.1 ho
    exact hsel' j o cs b (by simpa using hj))
  rw [hsz] at hs
  have hstay : ∀ t, sig a R t (rd a t) w := by
    intro t
    by_cases ht : t ∈ tmps R
    · obtain ⟨x, hx, rfl⟩ := List.mem_map.1 ht
      rw [sig_at R hn x hx]; exact (hR x hx).2.2.2.2
    · have : ∀ R : List (Tmp × (Value → World → Prop)), t ∉ tmps R → sig a R t = Is (rd a t) := by
        intro R
        induction R with
        | nil => intro _; rfl
        | cons y R ih =>
          intro hy
          show (if t = y.1 then y.2 else sig a R t) = _
          rw [if_neg (fun e => hy (by rw [e]; exact List.mem_cons_self)), ih (fun h => hy (List.mem_cons_of_mem _ h))]
      rw [this R ht]; rfl
  have hdr : Ext w w.drew := (Below.refl _ _).drew
  refine any_of_seqT hsel' ops.size (List.range' 0 ops.size) _ (sig a R) a _ (by simp) (List.nodup_range') (by simp) (fun j hj => ?_) ?_ (order_of hok _ _ (by simp)) hs List.pairwise_lt_range' ⟨rfl, rfl, hE.trans hdr, fun d hd g hg => hap.1 d hd g hg, hap.2⟩ (fun t => sig_lasts a R (fun x hx => (hR x hx).2.2.1) t _ _ _ (hstay t) hdr) (sig_lasts a R fun x hx => (hR x hx).2.2.1) ?_
  · have : (Array.replicate ops.size false).getD j true = false := by simp [hj]
    rw [this]
    simp [List.mem_range'_1, hj]
  · intro m o ho e he hb hr
    have := (Array.getElem?_eq_some_iff.1 ho).1
    simp [List.mem_range'_1, this]
  · have : ∀ R : List (Tmp × (Value → World → Prop)), (∀ x ∈ R, x.1 ∈ D ∧ Off W.heap.size x.2) → ∀ t, Keeps ⟨a.tmps.size, a.defers, W, D⟩ t (sig a R t) := by
      intro R
      induction R with
      | nil => intro _ t; exact Keeps.is t _
      | cons y R ih =>
        intro hy t
        show Keeps _ t (if t = y.1 then y.2 else sig a R t)
        by_cases ht : t = y.1
        · rw [if_pos ht, ht]
          exact ⟨fun _ => (hy y List.mem_cons_self).2, fun h => absurd (hy y List.mem_cons_self).1 h⟩
        · rw [if_neg ht]; exact ih (fun x hx => hy x (List.mem_cons_of_mem _ hx)) t
    exact this R fun x hx => ⟨(hR x hx).2.1, (hR x hx).2.2.2.1⟩
end
end Go.Proofs.YtffogjhjgmohiaaDoor
