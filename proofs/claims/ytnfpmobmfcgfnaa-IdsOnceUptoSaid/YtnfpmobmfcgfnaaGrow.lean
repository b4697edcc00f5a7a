/- A REGION THAT DRAWS ITS ORDER, WHOSE OPERATIONS ONLY READ OR MAKE NEW MEMORY: one obligation an operation, whatever the order. Over any program. -/
import Derived.Orders
import Derived.StillTail
import Derived.Tactics
import Derived.Below
namespace Go.Proofs.Ytnfpmobmfcgfnaa
open Go.RowKit
/-- the slot that operation i writes -/
def dstOf (ops : Array Oper) (i : Nat) : Option Tmp := (ops[i]?).bind (·.dst)
/-- does operation i look at what operation j writes? -/
def depB (ops : Array Oper) (i j : Nat) : Bool :=
  match ops[i]?, dstOf ops j with
  | some o, some d => (o.looksAt ops).contains d
  | _, _ => false
/-- no operation of the region writes slot t -/
def freeB (ops : Array Oper) (t : Nat) : Bool := (List.range ops.size).all fun j => dstOf ops j != some t
def growB (ops : Array Oper) : Bool :=
  (List.range ops.size).all fun i =>
    match ops[i]? with
    | none => true
    | some o => (o.after.all fun e => decide (e.on < i)) &&
        (List.range ops.size).all fun j => (!depB ops i j || (o.after.any fun e => Region.binds .any e && e.on == j)) &&
          (j == i || dstOf ops i == none || dstOf ops i != dstOf ops j)
def slotOf (ops : Array Oper) (a : Act) (j : Nat) : Value :=
  match dstOf ops j with
  | some d => a.tmps[d]?.getD undef
  | none => undef
structure GrowCtx (ops : Array Oper) (a0 : Act) (w0 : World) (a : Act) (w : World) : Prop where
  below : Below w0.heap.size w0 w
  defers : a.defers = a0.defers
  size : a.tmps.size = a0.tmps.size
  same : ∀ t, freeB ops t = true → a.tmps[t]?.getD undef = a0.tmps[t]?.getD undef
def Oblig (P : Program) (ops : Array Oper) (Q : Exit → Act → World → Prop) (a0 : Act) (w0 : World) (sp : Nat → Value → World → Prop) (i : Nat) : Prop :=
  ∀ (a : Act) (w : World), GrowCtx ops a0 w0 a w → (∀ j, depB ops i j = true → sp j (slotOf ops a j) w) →
    wpOp P ops Q i (fun a' w' => ∃ v, a' = a.put (dstOf ops i) v ∧ sp i v w' ∧ Below w.heap.size w w') a w
theorem growB_spec {ops : Array Oper} (h : growB ops = true) {i : Nat} {o : Oper} (hi : ops[i]? = some o) :
    (∀ e ∈ o.after, e.on < i) ∧ (∀ j, j < ops.size → depB ops i j = true → ∃ e ∈ o.after, Region.binds .any e = true ∧ e.on = j) ∧
    (∀ j, j < ops.size → j ≠ i → dstOf ops i = none ∨ dstOf ops i ≠ dstOf ops j) := by
  have hlt : i < ops.size := (Array.getElem?_eq_some_iff.1 hi).1
  have h1 := List.all_eq_true.1 h i (List.mem_range.2 hlt)
  simp only [hi, Bool.and_eq_true] at h1
  obtain ⟨h2, h3⟩ := h1
  have h4 := List.all_eq_true.1 h3
  refine ⟨fun e he => ?_, fun j hj hd => ?_, fun j hj hne => ?_⟩
  · have := (Array.all_eq_true_iff_forall_mem.1 h2) e he
    simpa using this
  · have := h4 j (List.mem_range.2 hj)
    simp only [Bool.and_eq_true, Bool.or_eq_true, Bool.not_eq_true'] at this
    rcases this.1 with h5 | h5
    · rw [hd] at h5; cases h5
    · obtain ⟨e, he, hb⟩ := Array.any_eq_true'.1 h5
      simp only [Bool.and_eq_true, beq_iff_eq] at hb
      exact ⟨e, he, hb.1, hb.2⟩
  · have := h4 j (List.mem_range.2 hj)
    simp only [Bool.and_eq_true, Bool.or_eq_true, beq_iff_eq, bne_iff_ne] at this
    rcases this.2 with (h5 | h5) | h5
    · exact absurd h5 hne
    · exact .inl h5
    · exact .inr h5
theorem put_slot (a : Act) (dst : Option Tmp) (v : Value) (t : Nat) (h : dst ≠ some t) : (a.put dst v).tmps[t]?.getD undef = a.tmps[t]?.getD undef := by
  cases dst with
  | none => rfl
  | some d =>
    have hne : d ≠ t := fun e => h (by rw [e])
    simp [Act.put, Array.getElem?_setIfInBounds_ne hne]
theorem put_size (a : Act) (dst : Option Tmp) (v : Value) : (a.put dst v).tmps.size = a.tmps.size := by cases dst <;> simp [Act.put]
theorem put_defs (a : Act) (dst : Option Tmp) (v : Value) : (a.put dst v).defers = a.defers := by cases dst <;> rfl
theorem put_self (a : Act) (d : Nat) (v : Value) (h : d < a.tmps.size) : (a.put (some d) v).tmps[d]?.getD undef = v := by
  simp [Act.put, h]
section
variable {P : Program} {ops : Array Oper} {Q : Exit → Act → World → Prop} {a0 : Act} {w0 : World} {sp : Nat → Value → World → Prop}
theorem wpAny_grow (hB : growB ops = true) (hfit : ∀ i d, dstOf ops i = some d → d < a0.tmps.size) (hst : ∀ i v w w', sp i v w → Below w.heap.size w w' → sp i v w')
    (hob : ∀ i, i < ops.size → Oblig P ops Q a0 w0 sp i)
    (hfin : ∀ a w, GrowCtx ops a0 w0 a w → (∀ j d, j < ops.size → dstOf ops j = some d → sp j (a.tmps[d]?.getD undef) w) → Q .normal a w) :
    ∀ (fuel : Nat) (listed : Array Bool) (a : Act) (w : World), listed.size = ops.size → (List.range ops.size).countP (fun i => listed.getD i true == false) ≤ fuel → GrowCtx ops a0 w0 a w →
      (∀ j d, listed.getD j false = true → dstOf ops j = some d → sp j (a.tmps[d]?.getD undef) w) → wpAny P .any ops Q fuel listed a w := by
  -- if nothing may come up, all have come up
  have hall : ∀ listed : Array Bool, listed.size = ops.size → Region.ready .any ops listed = [] → ∀ j, j < ops.size → listed.getD j false = true := by
    intro listed hsz hr
    have key : ∀ n j, j ≤ n → j < ops.size → listed.getD j false = true := by
      intro n
      induction n with
      | zero =>
        intro j hj hjs
        obtain rfl : j = 0 := by omega
        cases hl : listed.getD 0 false with
        | true => rfl
        | false =>
          exfalso
          have hm : 0 ∈ Region.ready .any ops listed := by
            refine mem_ready.2 ⟨getD_in (by omega) hl, ops[0], Array.getElem?_eq_getElem hjs, fun e he _ => ?_⟩
            have := (growB_spec hB (Array.getElem?_eq_getElem hjs)).1 e he
            omega
          rw [hr] at hm; cases hm
      | succ n ih =>
        intro j hj hjs
        by_cases hjn : j ≤ n
        · exact ih j hjn hjs
        · cases hl : listed.getD j false with
          | true => rfl
          | false =>
            exfalso
            have hm : j ∈ Region.ready .any ops listed := by
              refine mem_ready.2 ⟨getD_in (by omega) hl, ops[j], Array.getElem?_eq_getElem hjs, fun e he _ => ?_⟩
              have := (growB_spec hB (Array.getElem?_eq_getElem hjs)).1 e he
              exact ih e.on (by omega) (by omega)
            rw [hr] at hm; cases hm
    exact fun j hj => key j j (Nat.le_refl _) hj
  have hdone : ∀ (listed : Array Bool) (a : Act) (w : World), listed.size = ops.size → GrowCtx ops a0 w0 a w →
      (∀ j d, listed.getD j false = true → dstOf ops j = some d → sp j (a.tmps[d]?.getD undef) w) → Region.ready .any ops listed = [] → Q .normal a w :=
    fun listed a w hsz hc hs hr => hfin a w hc fun j d hj hd => hs j d (hall listed hsz hr j hj) hd
  intro fuel
  induction fuel with
  | zero =>
    intro listed a w hsz hcnt hc hs
    have hr : Region.ready .any ops listed = [] := by
      apply List.eq_nil_iff_forall_not_mem.2
      intro i hi
      obtain ⟨h1, o, ho, _⟩ := mem_ready.1 hi
      have hlt : i < ops.size := (Array.getElem?_eq_some_iff.1 ho).1
      have : 0 < (List.range ops.size).countP (fun i => listed.getD i true == false) :=
        List.countP_pos_iff.2 ⟨i, List.mem_range.2 hlt, by simpa using h1⟩
      omega
    exact ⟨hr, hdone listed a w hsz hc hs hr⟩
  | succ fuel ih =>
    intro listed a w hsz hcnt hc hs
    refine ⟨hdone listed a w hsz hc hs, fun i hi => ?_⟩
    obtain ⟨h1, o, ho, hrdy⟩ := mem_ready.1 hi
    have hlt : i < ops.size := (Array.getElem?_eq_some_iff.1 ho).1
    obtain ⟨hb1, hb2, hb3⟩ := growB_spec hB ho
    refine wpOp_mono (fun a' w' hK => ?_) (hob i hlt a w hc (fun j hj => ?_))
    · obtain ⟨v, rfl, hv, hgrow⟩ := hK
      have hsz' : (listed.setIfInBounds i true).size = ops.size := by simpa using hsz
      refine ih _ _ _ hsz' ?_ ⟨hc.below.trans (hgrow.mono hc.below.size), (put_defs _ _ _).trans hc.defers, (put_size _ _ _).trans hc.size, fun t ht => ?_⟩ ?_
      · -- one less
        have hlt2 : (List.range ops.size).countP (fun k => (listed.setIfInBounds i true).getD k true == false) < (List.range ops.size).countP (fun k => listed.getD k true == false) := by
          have hsub : ∀ k, ((listed.setIfInBounds i true).getD k true == false) = true → (listed.getD k true == false) = true := by
            intro k hk
            by_cases hik : i = k
            · subst hik
              simp [show i < listed.size by omega] at hk
            · rw [getD_set_ne true hik] at hk; exact hk
          have hnot : ((listed.setIfInBounds i true).getD i true == false) = false := by simp [show i < listed.size by omega]
          have hmem : i ∈ List.range ops.size := List.mem_range.2 hlt
          have h1' : (listed.getD i true == false) = true := by simpa using h1
          clear hcnt ih hdone hall hob hfin hs hc
          generalize List.range ops.size = L at hmem
          induction L with
          | nil => cases hmem
          | cons x L ihL =>
            rw [List.countP_cons, List.countP_cons]
            have hmono : L.countP (fun k => (listed.setIfInBounds i true).getD k true == false) ≤ L.countP (fun k => listed.getD k true == false) :=
              List.countP_mono_left (fun k _ hk => hsub k hk)
            rcases List.mem_cons.1 hmem with e | hm
            · subst e
              rw [if_neg (by rw [hnot]; decide), if_pos h1']
              omega
            · have h2 := ihL hm
              by_cases hx : ((listed.setIfInBounds i true).getD x true == false) = true
              · rw [if_pos hx, if_pos (hsub x hx)]; omega
              · rw [if_neg hx]; omega
        omega
      · rw [put_slot _ _ _ _ (fun e => ?_)]
        · exact hc.same t ht
        · have h2 := List.all_eq_true.1 ht i (List.mem_range.2 hlt)
          simp only [bne_iff_ne] at h2
          exact h2 e
      · intro j d hl hd
        by_cases hji : j = i
        · subst hji
          rw [hd, put_self _ _ _ (by rw [hc.size]; exact hfit _ _ hd)]
          exact hv
        · have hl' : listed.getD j false = true := by rwa [getD_set_ne false (fun e => hji e.symm)] at hl
          have hjs : j < ops.size := by
            rcases Nat.lt_or_ge j ops.size with h | h
            · exact h
            · rw [Array.getD_eq_getD_getElem?, Array.getElem?_eq_none (by omega)] at hl'; simp at hl'
          rw [put_slot _ _ _ _ (fun e => ?_)]
          · exact hst _ _ _ _ (hs j d hl' hd) hgrow
          · rcases hb3 j hjs hji with h | h
            · rw [h] at e; cases e
            · exact h (e.trans hd.symm)
    · -- what it looks at has come up
      have hjd : ∃ d, dstOf ops j = some d := by
        unfold depB at hj
        rw [ho] at hj
        cases hd : dstOf ops j with
        | none => rw [hd] at hj; cases hj
        | some d => exact ⟨d, rfl⟩
      obtain ⟨d, hd⟩ := hjd
      have hjs : j < ops.size := by
        unfold dstOf at hd
        cases hoj : ops[j]? with
        | none => rw [hoj] at hd; cases hd
        | some oj => exact (Array.getElem?_eq_some_iff.1 hoj).1
      obtain ⟨e, he, hbd, hon⟩ := hb2 j hjs hj
      have hl := hrdy e he hbd
      rw [hon] at hl
      have := hs j d hl hd
      unfold slotOf
      rw [hd]
      exact this
theorem wp_region_grow {id : Nat} {w : World} (hm : P.follows .mixedOrders = true) (sp : Nat → Value → World → Prop) (hB : growB ops = true) (hfit : ∀ i d, dstOf ops i = some d → d < a0.tmps.size)
    (hst : ∀ i v w w', sp i v w → Below w.heap.size w w' → sp i v w')
    (hob : ∀ i, i < ops.size → Oblig P ops Q a0 w.drew sp i)
    (hfin : ∀ a w', GrowCtx ops a0 w.drew a w' → (∀ j d, j < ops.size → dstOf ops j = some d → sp j (a.tmps[d]?.getD undef) w') → Q .normal a w') :
    (Code.region id ops true).wp P Q a0 w := by
  refine wp_region_any hm (wpAny_grow (w0 := w.drew) hB hfit hst hob hfin _ _ _ _ (by simp) ?_ ⟨Below.refl _ _, rfl, rfl, fun _ _ => rfl⟩ (fun j d hl _ => ?_))
  · exact Nat.le_trans (List.countP_le_length) (by simp)
  · rw [getD_replicate_false] at hl; cases hl
theorem wanted_none {o : Oper} {tmps : Array Value} (h : o.guard = none) : Region.wanted o (yielded ops tmps) = true := by simp [Region.wanted, h]
theorem wanted_some {o : Oper} {a : Act} {g : Nat} {b : Bool} {d : Nat} (h : o.guard = some (g, b)) (hd : dstOf ops g = some d) (hv : a.tmps[d]?.getD undef = .bool b) : Region.wanted o (yielded ops a.tmps) = true := by
  unfold Region.wanted
  rw [h]
  have : yielded ops a.tmps g = some b := by
    unfold yielded
    unfold dstOf at hd
    rw [hd]
    cases hx : a.tmps[d]? with
    | none => rw [hx] at hv; cases hv
    | some x =>
      rw [hx] at hv
      simp only [Option.getD_some] at hv
      subst hv
      simp [hx]
  simp [this]
/-- an operation that is carried out and yields a value in the world as it is -/
theorem obl_val {i : Nat} {o : Oper} {a : Act} {w : World} {v : Value} (ho : ops[i]? = some o) (hw : Region.wanted o (yielded ops a.tmps) = true) (hr : (execOp a.eval o).run P w = .ok (.value v) w) (hv : sp i v w) :
    wpOp P ops Q i (fun a' w' => ∃ v, a' = a.put (dstOf ops i) v ∧ sp i v w' ∧ Below w.heap.size w w') a w := by
  unfold wpOp
  simp only [ho, hw, if_true]
  refine .inl ?_
  unfold Oper.wp
  rw [hr]
  exact ⟨v, by unfold dstOf; rw [ho]; rfl, hv, Below.refl _ _⟩
/-- a call of a Go function that is met by a contract -/
theorem obl_call {i : Nat} {o : Oper} {a : Act} {w : World} {f : FuncId} {args : Array Value} {R : Ending → World → Prop} (ho : ops[i]? = some o) (hw : Region.wanted o (yielded ops a.tmps) = true)
    (hr : (execOp a.eval o).run P w = .ok (.enter f args) w) (hc : Calls P f args w R) (hR : ∀ e w', R e w' → ∃ v, e = .returned v ∧ sp i v w' ∧ Below w.heap.size w w') :
    wpOp P ops Q i (fun a' w' => ∃ v, a' = a.put (dstOf ops i) v ∧ sp i v w' ∧ Below w.heap.size w w') a w := by
  unfold wpOp
  simp only [ho, hw, if_true]
  refine .inl ?_
  unfold Oper.wp
  rw [hr, Oper.upon_enter]
  refine hc.mono fun e w' he => ?_
  obtain ⟨v, rfl, hv, hb⟩ := hR e w' he
  exact ⟨v, by unfold dstOf; rw [ho]; rfl, hv, hb⟩
/-- an operation that is passed over -/
theorem obl_skip {i : Nat} {o : Oper} {a : Act} {w : World} (ho : ops[i]? = some o) (hw : Region.wanted o (yielded ops a.tmps) = false) (hv : sp i undef w) :
    wpOp P ops Q i (fun a' w' => ∃ v, a' = a.put (dstOf ops i) v ∧ sp i v w' ∧ Below w.heap.size w w') a w := by
  unfold wpOp
  simp only [ho, hw]
  exact ⟨undef, by unfold dstOf; rw [ho]; rfl, hv, Below.refl _ _⟩
end
/-- what is said of a value, and stays true while the world grows -/
structure Sp where
  f : Value → World → Prop
  st : ∀ v w w', f v w → Below w.heap.size w w' → f v w'
/-- what is said of the operations, one behind the other -/
def spOf (l : List Sp) (i : Nat) (v : Value) (w : World) : Prop :=
  match l[i]? with
  | some s => s.f v w
  | none => True
theorem spOf_st (l : List Sp) : ∀ i v w w', spOf l i v w → Below w.heap.size w w' → spOf l i v w' := by
  intro i v w w' hs hb
  unfold spOf at *
  cases hi : l[i]? with
  | none => trivial
  | some f =>
    rw [hi] at hs
    exact f.st v w w' hs hb
/-- 'the value is this one' -/
def isS (c : Value) : Sp := ⟨fun v _ => v = c, fun _ _ _ h _ => h⟩
/-- nothing is said -/
def anyS : Sp := ⟨fun _ _ => True, fun _ _ _ h _ => h⟩
def slotFitB (ops : Array Oper) (n : Nat) : Bool := (List.range ops.size).all fun i => match dstOf ops i with | some d => decide (d < n) | none => true
theorem fit_of {ops : Array Oper} {a0 : Act} (h : slotFitB ops a0.tmps.size = true) : ∀ i d, dstOf ops i = some d → d < a0.tmps.size := by
  intro i d hd
  have hlt : i < ops.size := by
    unfold dstOf at hd
    cases ho : ops[i]? with
    | none => rw [ho] at hd; cases hd
    | some o => exact (Array.getElem?_eq_some_iff.1 ho).1
  have := List.all_eq_true.1 h i (List.mem_range.2 hlt)
  rw [hd] at this
  simpa using this
theorem wp_region_sp {P : Program} {ops : Array Oper} {Q : Exit → Act → World → Prop} {a0 : Act} {id : Nat} {w : World} (hm : P.follows .mixedOrders = true) (l : List Sp) (hB : growB ops = true) (hfit : slotFitB ops a0.tmps.size = true)
    (hob : ∀ i, i < ops.size → Oblig P ops Q a0 w.drew (spOf l) i)
    (hfin : ∀ a w', GrowCtx ops a0 w.drew a w' → (∀ j d, j < ops.size → dstOf ops j = some d → spOf l j (a.tmps[d]?.getD undef) w') → Q .normal a w') :
    (Code.region id ops true).wp P Q a0 w := wp_region_grow hm (spOf l) hB (fit_of hfit) (spOf_st l) hob hfin
end Go.Proofs.Ytnfpmobmfcgfnaa
