/-
  A region that draws its order, of which every operation has one outcome in every world that meets S, and keeps S: it may be walked in the order of its text. Conditions: each theorem's own.
-/
import Derived.OrdersHeld
import Derived.Below
namespace Go.Proofs.YtffogjhjgmohiaaDoor
open Go.RowKit
set_option linter.unusedVariables false

/-- In state a, and in every world that meets S, the operation yields v, and S holds behind it. -/
def Does (P : Program) (S : World → Prop) (o : Oper) (v : Value) (a : Act) : Prop := ∀ w, S w →
  (∃ w', (execOp a.eval o).run P w = .ok (.value v) w' ∧ S w') ∨
  (∃ f args w', (execOp a.eval o).run P w = .ok (.enter f args) w' ∧ Calls P f args w' fun e w'' => e = .returned v ∧ S w'')
def Settles (P : Program) (ops : Array Oper) (S : World → Prop) (o : Oper) (v : Value) (a : Act) : Prop :=
  (Region.wanted o (yielded ops a.tmps) = true ∧ Does P S o v a) ∨ (Region.wanted o (yielded ops a.tmps) = false ∧ v = undef)
section
variable {P : Program} {ops : Array Oper} {Q : Exit → Act → World → Prop} {S : World → Prop}
theorem Settles.of_same {o : Oper} {v : Value} {a a' : Act} (h : Settles P ops S o v a) (he : execOp a'.eval o = execOp a.eval o)
    (hw : Region.wanted o (yielded ops a'.tmps) = Region.wanted o (yielded ops a.tmps)) : Settles P ops S o v a' := by
  unfold Settles Does at *
  rw [he, hw]
  exact h
theorem Settles.op {i : Nat} {o : Oper} {v : Value} {a : Act} {w : World} {K : Act → World → Prop} (hi : ops[i]? = some o) (h : Settles P ops S o v a) (hS : S w)
    (hK : ∀ w', S w' → K (a.put o.dst v) w') : wpOp P ops Q i K a w := by
  unfold wpOp
  simp only [hi]
  rcases h with ⟨hw, hd⟩ | ⟨hw, rfl⟩
  · simp only [hw, if_true]
    refine .inl ?_
    unfold Oper.wp
    rcases hd w hS with ⟨w', hr, hs⟩ | ⟨f, args, w', hr, hc⟩
    · rw [hr]; exact hK _ hs
    · rw [hr, Oper.upon_enter]
      refine hc.mono ?_
      rintro e w'' ⟨rfl, hs⟩
      exact hK _ hs
  · simp only [hw, Bool.false_eq_true, if_false]
    exact hK _ hS

/-- The operations of these numbers, one behind the other. -/
def Seq (P : Program) (ops : Array Oper) (S : World → Prop) (G : Act → Prop) : List Nat → Act → Prop
  | [], a => G a
  | i :: r, a => ∃ o v, ops[i]? = some o ∧ Settles P ops S o v a ∧ Seq P ops S G r (a.put o.dst v)

/-- j waits for k. -/
inductive Waits (ops : Array Oper) : Nat → Nat → Prop
  | one {j : Nat} {o : Oper} {e : Edge} : ops[j]? = some o → e ∈ o.after → Region.binds .any e = true → Waits ops j e.on
  | more {j k : Nat} {o : Oper} {e : Edge} : ops[j]? = some o → e ∈ o.after → Region.binds .any e = true → Waits ops e.on k → Waits ops j k

/-- What comes first may stand first. -/
def Apart (ops : Array Oper) (k i : Nat) : Prop := ∀ ok oi, ops[k]? = some ok → ops[i]? = some oi → ok.apart ops oi = true

theorem Seq.pull {G : Act → Prop} (hsel : ∀ (j : Nat) (o : Oper) cs b, ops[j]? = some o → o.op ≠ .select cs b) (i : Nat) (s : List Nat) :
    ∀ (p : List Nat) (a : Act), (∀ k ∈ p, Apart ops k i) → Seq P ops S G (p ++ i :: s) a →
      ∃ o v, ops[i]? = some o ∧ Settles P ops S o v a ∧ Seq P ops S G (p ++ s) (a.put o.dst v) := by
  intro p
  induction p with
  | nil => intro a _ h; exact h
  | cons k p ih =>
    intro a hap h
    obtain ⟨ok, vk, hok, hsk, hr⟩ := h
    obtain ⟨oi, vi, hoi, hsi, hr'⟩ := ih _ (fun k' hk' => hap k' (List.mem_cons_of_mem _ hk')) hr
    obtain ⟨h1, h2, h3⟩ := Oper.apart_spec (hap k List.mem_cons_self ok oi hok hoi)
    refine ⟨oi, vi, hoi, hsi.of_same (execOp_put oi (fun cs b => hsel i oi cs b hoi) a ok.dst vk h1).symm (wanted_put oi a ok.dst vk h1).symm, ok, vk, hok, ?_, ?_⟩
    · exact hsk.of_same (execOp_put ok (fun cs b => hsel k ok cs b hok) a oi.dst vi h3) (wanted_put ok a oi.dst vi h3)
    · rw [← Act.put_comm a vk vi h2]; exact hr'

/-- The numbers stand in an order that the edges allow, and what need not wait is apart. -/
def Order (ops : Array Oper) : List Nat → Prop
  | [] => True
  | i :: r => i < ops.size ∧ (∀ o, ops[i]? = some o → ∀ e ∈ o.after, Region.binds .any e = true → e.on ∉ i :: r ∧ e.on < ops.size) ∧ (∀ j ∈ r, Apart ops i j ∨ Waits ops j i) ∧ Order ops r
/-- Who waits for one of them is one of them. -/
def Up (ops : Array Oper) (r : List Nat) : Prop := ∀ m o, ops[m]? = some o → ∀ e ∈ o.after, Region.binds .any e = true → e.on ∈ r → m ∈ r

theorem Up.waits {r : List Nat} (hu : Up ops r) : ∀ {j k : Nat}, Waits ops j k → k ∈ r → ∃ o, ops[j]? = some o ∧ ∃ e ∈ o.after, Region.binds .any e = true ∧ e.on ∈ r := by
  intro j k h
  induction h with
  | one ho he hb => intro hk; exact ⟨_, ho, _, he, hb, hk⟩
  | more ho he hb _ ih =>
    intro hk
    obtain ⟨o', ho', e', he', hb', hr'⟩ := ih hk
    exact ⟨_, ho, _, he, hb, hu _ _ ho' _ he' hb' hr'⟩

theorem Order.sub : ∀ (p : List Nat) (i : Nat) (s : List Nat), Order ops (p ++ i :: s) → Order ops (p ++ s) := by
  intro p
  induction p with
  | nil => intro i s h; exact h.2.2.2
  | cons k p ih =>
    intro i s h
    have mono : ∀ {x : Nat}, x ∈ p ++ s → x ∈ p ++ i :: s := fun {x} hx => by
      rcases List.mem_append.1 hx with h | h
      · exact List.mem_append_left _ h
      · exact List.mem_append_right _ (List.mem_cons_of_mem _ h)
    refine ⟨h.1, fun o ho e he hb => ⟨fun hm => (h.2.1 o ho e he hb).1 ?_, (h.2.1 o ho e he hb).2⟩, fun j hj => h.2.2.1 j (mono hj), ih i s h.2.2.2⟩
    rcases List.mem_cons.1 hm with hm | hm
    · exact List.mem_cons.2 (.inl hm)
    · exact List.mem_cons.2 (.inr (mono hm))
theorem Order.ahead : ∀ (p : List Nat) (i : Nat) (s : List Nat), Order ops (p ++ i :: s) → ∀ k ∈ p, Apart ops k i ∨ Waits ops i k := by
  intro p
  induction p with
  | nil => intro i s _ k hk; cases hk
  | cons q p ih =>
    intro i s h k hk
    rcases List.mem_cons.1 hk with rfl | hk
    · exact h.2.2.1 i (by simp)
    · exact ih i s h.2.2.2 k hk
theorem Order.lt : ∀ (r : List Nat), Order ops r → ∀ k ∈ r, k < ops.size := by
  intro r
  induction r with
  | nil => intro _ k hk; cases hk
  | cons q p ih =>
    intro h k hk
    rcases List.mem_cons.1 hk with rfl | hk
    · exact h.1
    · exact ih h.2.2.2 k hk
theorem getD_set_same {l : Array Bool} {j : Nat} {d : Bool} (h : j < l.size) : (l.setIfInBounds j true).getD j d = true := by simp [h]
theorem getD_in {l : Array Bool} {j : Nat} (h : j < l.size) : l.getD j true = l.getD j false := by simp [h]

theorem any_of_seq {G : Act → Prop} (hsel : ∀ (j : Nat) (o : Oper) cs b, ops[j]? = some o → o.op ≠ .select cs b) (hG : ∀ a w, G a → S w → Q .normal a w) :
    ∀ (fuel : Nat) (r : List Nat) (listed : Array Bool) (a : Act) (w : World), r.length = fuel → r.Nodup → listed.size = ops.size → (∀ j, j < ops.size → (listed.getD j true = false ↔ j ∈ r)) →
      Up ops r → Order ops r → Seq P ops S G r a → S w → wpAny P .any ops Q fuel listed a w := by
  intro fuel
  induction fuel with
  | zero =>
    intro r listed a w hl _ hz hr _ _ hs hS
    obtain rfl := List.length_eq_zero_iff.1 hl
    refine ⟨?_, hG a w hs hS⟩
    cases hd : Region.ready .any ops listed with
    | nil => rfl
    | cons j t =>
      have hj : j ∈ Region.ready .any ops listed := by rw [hd]; exact List.mem_cons_self
      obtain ⟨hju, oj, hoj, _⟩ := mem_ready.1 hj
      have := (hr j (Array.getElem?_eq_some_iff.1 hoj).1).1 hju
      cases this
  | succ fuel ih =>
    intro r listed a w hl hn hz hr hu ho hs hS
    refine ⟨fun h0 => ?_, fun i hi => ?_⟩
    · cases r with
      | nil => simp at hl
      | cons i r =>
        exfalso
        obtain ⟨o, v, hoi, _, _⟩ := hs
        have : i ∈ Region.ready .any ops listed := by
          refine mem_ready.2 ⟨(hr i ho.1).2 List.mem_cons_self, o, hoi, fun e he hb => ?_⟩
          obtain ⟨hno, hlt⟩ := ho.2.1 o hoi e he hb
          cases hv : listed.getD e.on false with
          | true => rfl
          | false => exact absurd ((hr _ hlt).1 (by rw [getD_in (by rw [hz]; exact hlt)]; exact hv)) hno
        rw [h0] at this
        cases this
    · obtain ⟨hiu, oi, hoi, hall⟩ := mem_ready.1 hi
      have hii := (Array.getElem?_eq_some_iff.1 hoi).1
      obtain ⟨p, s, rfl⟩ := List.append_of_mem ((hr i hii).1 hiu)
      have hap : ∀ k ∈ p, Apart ops k i := fun k hk => by
        rcases ho.ahead p i s k hk with h | h
        · exact h
        · exfalso
          obtain ⟨o', ho', e, he, hb, hm⟩ := hu.waits h (List.mem_append_left _ hk)
          obtain rfl : o' = oi := Option.some.inj (ho'.symm.trans hoi)
          have hlt := ho.lt _ e.on hm
          have h1 := (hr _ hlt).2 hm
          rw [getD_in (by rw [hz]; exact hlt), hall e he hb] at h1
          cases h1
      obtain ⟨o, v, ho', hset, hrest⟩ := Seq.pull hsel i s p a hap hs
      obtain rfl : o = oi := Option.some.inj (ho'.symm.trans hoi)
      have hnot : i ∉ p ++ s := by
        have := hn
        rw [List.nodup_append] at this
        obtain ⟨_, h2, h3⟩ := this
        simp only [List.mem_append, not_or]
        exact ⟨fun h => h3 i h i List.mem_cons_self rfl, (List.nodup_cons.1 h2).1⟩
      refine hset.op hoi hS fun w' hS' => ih (p ++ s) _ _ w' ?_ ?_ ?_ ?_ ?_ (ho.sub p i s) hrest hS'
      · simp only [List.length_append, List.length_cons] at hl ⊢; omega
      · exact hn.sublist (List.Sublist.append_left (List.sublist_cons_self i s) p)
      · rw [Array.size_setIfInBounds, hz]
      · intro j hj
        by_cases hji : i = j
        · subst hji
          refine ⟨fun h => ?_, fun h => absurd h hnot⟩
          rw [getD_set_same (by rw [hz]; exact hii)] at h
          cases h
        · rw [getD_set_ne true hji, hr j hj]
          simp only [List.mem_append, List.mem_cons]
          constructor
          · rintro (h | h | h)
            · exact .inl h
            · exact absurd h.symm hji
            · exact .inr h
          · rintro (h | h)
            · exact .inl h
            · exact .inr (.inr h)
      · intro m om hom e he hb hm
        have hm' : e.on ∈ p ++ i :: s := by
          simp only [List.mem_append, List.mem_cons] at hm ⊢
          rcases hm with h | h
          · exact .inl h
          · exact .inr (.inr h)
        have hin := hu m om hom e he hb hm'
        have hmi : m ≠ i := by
          rintro rfl
          obtain rfl : om = o := Option.some.inj (hom.symm.trans hoi)
          have hlt := ho.lt _ e.on hm'
          have h1 := (hr _ hlt).2 hm'
          rw [getD_in (by rw [hz]; exact hlt), hall e he hb] at h1
          cases h1
        simp only [List.mem_append, List.mem_cons] at hin ⊢
        rcases hin with h | h | h
        · exact .inl h
        · exact absurd h hmi
        · exact .inr h

/-! ### The checks -/
/-- For each operation the numbers that it waits for, as bits. -/
def befs : List Oper → Array Nat → Array Nat
  | [], acc => acc
  | o :: l, acc => befs l (acc.push (o.after.toList.foldl (fun s e => if Region.binds .any e then s ||| 2 ^ e.on ||| acc.getD e.on 0 else s) 0))
theorem befs_waits (ops : Array Oper) : ∀ (l : List Oper) (acc : Array Nat), acc.size + l.length = ops.size → (∀ j, j < l.length → ops[acc.size + j]? = l[j]?) →
    (∀ j k, (acc.getD j 0).testBit k = true → Waits ops j k) → ∀ j k, ((befs l acc).getD j 0).testBit k = true → Waits ops j k := by
  intro l
  induction l with
  | nil => intro acc _ _ h; exact h
  | cons o l ih =>
    intro acc hsz hat h
    refine ih _ (by simp only [Array.size_push, List.length_cons] at hsz ⊢; omega) (fun j hj => ?_) ?_
    · have := hat (j + 1) (by simp only [List.length_cons]; omega)
      rw [Array.size_push, show acc.size + 1 + j = acc.size + (j + 1) by omega, this]
      simp
    · intro j k hb
      rcases Nat.lt_trichotomy j acc.size with hlt | rfl | hgt
      · refine h j k ?_
        rw [Array.getD_eq_getD_getElem?, Array.getElem?_push_lt hlt] at hb
        rw [Array.getD_eq_getD_getElem?, Array.getElem?_eq_getElem hlt]
        exact hb
      · have ho : ops[acc.size]? = some o := by have := hat 0 (by simp); simpa using this
        rw [Array.getD_eq_getD_getElem?, Array.getElem?_push_size] at hb
        have key : ∀ (es : List Edge) (s : Nat), (∀ e ∈ es, e ∈ o.after.toList) → (s.testBit k = true → Waits ops acc.size k) →
            (es.foldl (fun s e => if Region.binds .any e then s ||| 2 ^ e.on ||| acc.getD e.on 0 else s) s).testBit k = true → Waits ops acc.size k := by
          intro es
          induction es with
          | nil => intro s _ hs; exact hs
          | cons e es ihe =>
            intro s hm hs
            rw [List.foldl_cons]
            refine ihe _ (fun e' he' => hm e' (List.mem_cons_of_mem _ he')) ?_
            split
            · rename_i hbind
              rw [Nat.testBit_or, Nat.testBit_or, Bool.or_eq_true, Bool.or_eq_true]
              rintro ((h1 | h1) | h1)
              · exact hs h1
              · rw [Nat.testBit_two_pow] at h1
                obtain rfl : e.on = k := by simpa using h1
                exact .one ho (by simpa using hm e List.mem_cons_self) hbind
              · exact .more ho (by simpa using hm e List.mem_cons_self) hbind (h _ _ h1)
            · exact hs
        exact key o.after.toList 0 (fun _ h => h) (by simp) hb
      · rw [Array.getD_eq_getD_getElem?, Array.getElem?_eq_none (by simp; omega)] at hb
        simp at hb

/-- Each pair: apart, or the later one waits. The list: operations with the bits of what they wait for. -/
def pairsB (ops : Array Oper) : List (Oper × Nat) → Nat → Bool
  | [], _ => true
  | (o, _) :: r, i => (r.all fun x => o.apart ops x.1 || x.2.testBit i) && pairsB ops r (i + 1)
def edgesB : List Oper → Nat → Bool
  | [], _ => true
  | o :: r, i => (o.after.toList.all fun e => !Region.binds .any e || decide (e.on < i)) && edgesB r (i + 1)
def settledB (ops : Array Oper) : Bool := Region.noSelect ops && edgesB ops.toList 0 && pairsB ops (ops.toList.zip (befs ops.toList #[]).toList) 0

theorem edgesB_at : ∀ (l : List Oper) (i : Nat), edgesB l i = true → ∀ (j : Nat) (o : Oper), l[j]? = some o → ∀ e ∈ o.after, Region.binds .any e = true → e.on < i + j := by
  intro l
  induction l with
  | nil => intro i _ j o h; simp at h
  | cons x l ih =>
    intro i h j o hj e he hb
    rw [edgesB, Bool.and_eq_true] at h
    cases j with
    | zero =>
      obtain rfl : x = o := by simpa using hj
      have := List.all_eq_true.1 h.1 e (by simpa using he)
      simpa [hb] using this
    | succ j =>
      have := ih (i + 1) h.2 j o (by simpa using hj) e he hb
      omega
theorem befs_size : ∀ (l : List Oper) (acc : Array Nat), (befs l acc).size = acc.size + l.length := by
  intro l
  induction l with
  | nil => intro acc; rfl
  | cons o l ih => intro acc; rw [befs, ih, Array.size_push, List.length_cons]; omega
theorem pairsB_at (ops : Array Oper) : ∀ (l : List (Oper × Nat)) (i : Nat), pairsB ops l i = true → ∀ (j k : Nat) (x y : Oper × Nat), j < k → l[j]? = some x → l[k]? = some y → x.1.apart ops y.1 = true ∨ y.2.testBit (i + j) = true := by
  intro l
  induction l with
  | nil => intro i _ j k x y _ h; simp at h
  | cons z l ih =>
    intro i h j k x y hjk hx hy
    rw [pairsB, Bool.and_eq_true] at h
    cases j with
    | zero =>
      obtain rfl : z = x := by simpa using hx
      obtain ⟨k, rfl⟩ : ∃ k', k = k' + 1 := ⟨k - 1, by omega⟩
      have := List.all_eq_true.1 h.1 y (List.mem_of_getElem? (by simpa using hy))
      simpa using this
    | succ j =>
      obtain ⟨k, rfl⟩ : ∃ k', k = k' + 1 := ⟨k - 1, by omega⟩
      have := ih (i + 1) h.2 j k x y (by omega) (by simpa using hx) (by simpa using hy)
      rwa [show i + 1 + j = i + (j + 1) by omega] at this

theorem order_of (h : settledB ops = true) : ∀ n k, k + n = ops.size → Order ops (List.range' k n) := by
  unfold settledB at h
  rw [Bool.and_eq_true, Bool.and_eq_true] at h
  obtain ⟨⟨_, he⟩, hp⟩ := h
  intro n
  induction n with
  | zero => intro k _; exact trivial
  | succ n ih =>
    intro k hk
    refine ⟨by omega, fun o ho e hm hb => ?_, fun j hj => ?_, ih (k + 1) (by omega)⟩
    · have := edgesB_at _ _ he k o (by simpa using ho) e hm hb
      refine ⟨fun h => ?_, by omega⟩
      have := List.mem_range'_1.1 (show e.on ∈ List.range' k (n + 1) from h)
      omega
    · have hj' := List.mem_range'_1.1 hj
      have hbs := befs_size ops.toList #[]
      have hbz : (befs ops.toList #[]).size = ops.size := by rw [hbs]; simp
      have hk1 : k < ops.size := by omega
      have hj1 : j < ops.size := by omega
      have ex : (ops.toList.zip (befs ops.toList #[]).toList)[k]? = some (ops[k], (befs ops.toList #[])[k]'(by omega)) := by
        rw [List.getElem?_zip_eq_some]; simp [hk1, hbz]
      have ey : (ops.toList.zip (befs ops.toList #[]).toList)[j]? = some (ops[j], (befs ops.toList #[])[j]'(by omega)) := by
        rw [List.getElem?_zip_eq_some]; simp [hj1, hbz]
      rcases pairsB_at ops _ 0 hp k j _ _ (by omega) ex ey with h | h
      · refine .inl fun ok oi h1 h2 => ?_
        rw [Array.getElem?_eq_getElem hk1] at h1
        rw [Array.getElem?_eq_getElem hj1] at h2
        obtain rfl := Option.some.inj h1
        obtain rfl := Option.some.inj h2
        exact h
      · refine .inr (befs_waits ops ops.toList #[] (by simp) (fun j _ => by simp) (fun j k h => by simp at h) j k ?_)
        rw [Array.getD_eq_getD_getElem?, Array.getElem?_eq_getElem (by omega)]
        simpa using h

/-- The walk's form: the operations themselves. -/
def SeqL (P : Program) (ops : Array Oper) (S : World → Prop) (G : Act → Prop) : List Oper → Act → Prop
  | [], a => G a
  | o :: r, a => ∃ v, Settles P ops S o v a ∧ SeqL P ops S G r (a.put o.dst v)
theorem seq_of_list {G : Act → Prop} : ∀ (l : List Oper) (k : Nat) (a : Act), k + l.length = ops.size → (∀ j, j < l.length → ops[k + j]? = l[j]?) → SeqL P ops S G l a → Seq P ops S G (List.range' k l.length) a := by
  intro l
  induction l with
  | nil => intro k a _ _ h; exact h
  | cons o l ih =>
    intro k a hk hat h
    obtain ⟨v, hs, hr⟩ := h
    refine ⟨o, v, by have := hat 0 (by simp); simpa using this, hs, ih (k + 1) _ (by simp only [List.length_cons] at hk; omega) (fun j hj => ?_) hr⟩
    have := hat (j + 1) (by simp only [List.length_cons]; omega)
    rw [show k + 1 + j = k + (j + 1) by omega, this]
    simp

/-- **The region, in the order of its text.** -/
theorem region_settled {id : Nat} {a : Act} {w : World} {l : List Oper} (S : World → Prop) (hm : P.follows .mixedOrders = true) (hok : settledB ops = true) (hl : ops.toList = l) (hS : S w.drew)
    (h : SeqL P ops S (fun a' => ∀ w', S w' → Q .normal a' w') l a) : (Code.region id ops true).wp P Q a w := by
  subst hl
  refine wp_region_any hm ?_
  have hsel : Region.noSelect ops = true := by
    have := hok
    unfold settledB at this
    rw [Bool.and_eq_true, Bool.and_eq_true] at this
    exact this.1.1
  have hsz : ops.toList.length = ops.size := by simp
  refine any_of_seq (G := fun a' => ∀ w', S w' → Q .normal a' w') (Region.noSelect_spec hsel) (fun a w h hS => h w hS) ops.size (List.range' 0 ops.size) _ a _ (by simp) (List.nodup_range') (by simp) (fun j hj => ?_) ?_ (order_of hok _ _ (by simp)) ?_ hS
  · have : (Array.replicate ops.size false).getD j true = false := by simp [hj]
    rw [this]
    simp [List.mem_range'_1, hj]
  · intro m o ho e he hb hr
    have := (Array.getElem?_eq_some_iff.1 ho).1
    simp [List.mem_range'_1, this]
  · have := seq_of_list (P := P) (S := S) (G := fun a' => ∀ w', S w' → Q .normal a' w') ops.toList 0 a (by simp) (fun j _ => by simp) h
    rwa [hsz] at this

/-! ### The steps -/
theorem seq_skip {G : Act → Prop} {o : Oper} {r : List Oper} {a : Act} (hw : Region.wanted o (yielded ops a.tmps) = false) (h : SeqL P ops S G r (a.put o.dst undef)) : SeqL P ops S G (o :: r) a :=
  ⟨_, .inr ⟨hw, rfl⟩, h⟩
theorem seq_pure {G : Act → Prop} {o : Oper} {r : List Oper} {a : Act} {v : Value} (hw : Region.wanted o (yielded ops a.tmps) = true) (hv : ∀ w, S w → (execOp a.eval o).run P w = .ok (.value v) w)
    (h : SeqL P ops S G r (a.put o.dst v)) : SeqL P ops S G (o :: r) a :=
  ⟨_, .inl ⟨hw, fun w hS => .inl ⟨w, hv w hS, hS⟩⟩, h⟩
theorem seq_call {G : Act → Prop} {o : Oper} {r : List Oper} {a : Act} {v : Value} {f : FuncId} {args : Array Value} (hw : Region.wanted o (yielded ops a.tmps) = true)
    (hv : ∀ w, (execOp a.eval o).run P w = .ok (.enter f args) w) (hc : ∀ w, S w → Calls P f args w fun e w' => e = .returned v ∧ S w')
    (h : SeqL P ops S G r (a.put o.dst v)) : SeqL P ops S G (o :: r) a :=
  ⟨_, .inl ⟨hw, fun w hS => .inr ⟨f, args, w, hv w, hc w hS⟩⟩, h⟩
theorem seq_done {G : Act → Prop} {a : Act} (h : G a) : SeqL P ops S G [] a := h
end

/-- A call that, in every world in which what stood in W is as it was, hands back v and writes nothing of that. -/
def CallB (P : Program) (W : World) (f : FuncId) (args : Array Value) (v : Value) : Prop := ∀ w, Below W.heap.size W w → Calls P f args w fun e w' => e = .returned v ∧ Below W.heap.size W w'
theorem CallB.at_ {P : Program} {W : World} {f : FuncId} {args : Array Value} {v : Value} (h : CallB P W f args v) {w : World} (hb : Below W.heap.size W w) : Calls P f args w fun e w' => e = .returned v ∧ Below W.heap.size W w' := h w hb
theorem CallB.of {P : Program} {W : World} {f : FuncId} {args : Array Value} {v : Value} (h : ∀ w, Below W.heap.size W w → Calls P f args w fun e w' => e = .returned v ∧ Below w.heap.size w w') : CallB P W f args v :=
  fun w hb => (h w hb).mono fun _ _ ⟨he, hb'⟩ => ⟨he, hb.trans (hb'.mono hb.size)⟩
end Go.Proofs.YtffogjhjgmohiaaDoor
