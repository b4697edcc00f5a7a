/- A REGION THAT DRAWS ITS ORDER, WHOSE OPERATIONS ONLY READ OR MAKE NEW MEMORY: one obligation an operation, whatever the order. Over any program. -/
import Derived.Test.YtnfpmobmfcgfnaaPa
import Derived.Orders
import Derived.StillTail
import Derived.Tactics
import Derived.Below
namespace Go.Proofs.Ytnfpmobmfcgfnaa
open Go.RowKit
/-- the slot that operation i writes -/
def dstOf (ops : Array Oper) (i : Nat) : Option Tmp := (ops[i]?).bind (·.dst)
/-- does operation i look at what operation j writes? -/
def depB (ops : Array Oper) (i j : Nat) : Bool :=
 match ops[i]?, dstOf ops j with
 | some o, some d => (o.looksAt ops).contains d
 | _, _ => false
/-- no operation of the region writes slot t -/
def freeB (ops : Array Oper) (t : Nat) : Bool := (List.range ops.size).all fun j => dstOf ops j != some t
def growB (ops : Array Oper) : Bool :=
 (List.range ops.size).all fun i =>
  match ops[i]? with
  | none => true
  | some o => (o.after.all fun e => decide (e.on < i)) &&
    (List.range ops.size).all fun j => (!depB ops i j || (o.after.any fun e => Region.binds .any e && e.on == j)) &&
     (j == i || dstOf ops i == none || dstOf ops i != dstOf ops j)
def slotOf (ops : Array Oper) (a : Act) (j : Nat) : Value :=
 match dstOf ops j with
 | some d => a.tmps[d]?.getD undef
 | none => undef
structure GrowCtx (ops : Array Oper) (a0 : Act) (w0 : World) (a : Act) (w : World) : Prop where
 below : Below w0.heap.size w0 w
 defers : a.defers = a0.defers
 size : a.tmps.size = a0.tmps.size
 same : ∀ t, freeB ops t = true → a.tmps[t]?.getD undef = a0.tmps[t]?.getD undef
def Oblig (P : Program) (ops : Array Oper) (Q : Exit → Act → World → Prop) (a0 : Act) (w0 : World) (sp : Nat → Value → World → Prop) (i : Nat) : Prop :=
  ∀ (a : Act) (w : World), GrowCtx ops a0 w0 a w → (∀ j, depB ops i j = true → sp j (slotOf ops a j) w) →
    wpOp P ops Q i (fun a' w' => ∃ v, a' = a.put (dstOf ops i) v ∧ sp i v w' ∧ Below w.heap.size w w') a w
theorem growB_spec {ops : Array Oper} (h : growB ops = true) {i : Nat} {o : Oper} (hi : ops[i]? = some o) :
  (∀ e ∈ o.after, e.on < i) ∧ (∀ j, j < ops.size → depB ops i j = true → ∃ e ∈ o.after, Region.binds .any e = true ∧ e.on = j) ∧
  (∀ j, j < ops.size → j ≠ i → dstOf ops i = none ∨ dstOf ops i ≠ dstOf ops j) := by
 have hlt : i < ops.size := (Array.getElem?_eq_some_iff.1 hi).1
 have h1 := List.all_eq_true.1 h i (List.mem_range.2 hlt)
 simp only [hi, Bool.and_eq_true] at h1
 obtain ⟨h2, h3⟩ := h1
 have h4 := List.all_eq_true.1 h3
 refine ⟨fun e he => ?_, fun j hj hd => ?_, fun j hj hne => ?_⟩
 ·have := (Array.all_eq_true_iff_forall_mem.1 h2) e he
  simpa using this
 ·have := h4 j (List.mem_range.2 hj)
  simp only [Bool.and_eq_true, Bool.or_eq_true, Bool.not_eq_true'] at this
  rcases this.1 with h5 | h5
  ·rw [hd] at h5; cases h5
  ·obtain ⟨e, he, hb⟩ := Array.any_eq_true'.1 h5
   simp only [Bool.and_eq_true, beq_iff_eq] at hb
   exact ⟨e, he, hb.1, hb.2⟩
 ·have := h4 j (List.mem_range.2 hj)
  simp only [Bool.and_eq_true, Bool.or_eq_true, beq_iff_eq, bne_iff_ne] at this
  rcases this.2 with (h5 | h5) | h5
  ·exact absurd h5 hne
  ·exact .inl h5
  ·exact .inr h5
theorem put_slot (a : Act) (dst : Option Tmp) (v : Value) (t : Nat) (h : dst ≠ some t) : (a.put dst v).tmps[t]?.getD undef = a.tmps[t]?.getD undef := by
 cases dst with
 | none => rfl
 | some d =>
  have hne : d ≠ t := fun e => h (by rw [e])
  simp [Act.put, Array.getElem?_setIfInBounds_ne hne]
theorem put_size (a : Act) (dst : Option Tmp) (v : Value) : (a.put dst v).tmps.size = a.tmps.size := by cases dst <;> simp [Act.put]
theorem put_defs (a : Act) (dst : Option Tmp) (v : Value) : (a.put dst v).defers = a.defers := by cases dst <;> rfl
theorem put_self (a : Act) (d : Nat) (v : Value) (h : d < a.tmps.size) : (a.put (some d) v).tmps[d]?.getD undef = v := by
 simp [Act.put, h]
section
variable {P : Program} {ops : Array Oper} {Q : Exit → Act → World → Prop} {a0 : Act} {w0 : World} {sp : Nat → Value → World → Prop}
theorem wpAny_grow (hB : growB ops = true) (hfit : ∀ i d, dstOf ops i = some d → d < a0.tmps.size) (hst : ∀ i v w w', sp i v w → Below w.heap.size w w' → sp i v w')
    (hob : ∀ i, i < ops.size → Oblig P ops Q a0 w0 sp i)
    (hfin : ∀ a w, GrowCtx ops a0 w0 a w → (∀ j d, j < ops.size → dstOf ops j = some d → sp j (a.tmps[d]?.getD undef) w) → Q .normal a w) :
    ∀ (fuel : Nat) (listed : Array Bool) (a : Act) (w : World), listed.size = ops.size → (List.range ops.size).countP (fun i => listed.getD i true == false) ≤ fuel → GrowCtx ops a0 w0 a w →
      (∀ j d, listed.getD j false = true → dstOf ops j = some d → sp j (a.tmps[d]?.getD undef) w) → wpAny P .any ops Q fuel listed a w := by
  -- if nothing may come up, all have come up
  have hall : ∀ listed : Array Bool, listed.size = ops.size → Region.ready .any ops listed = [] → ∀ j, j < ops.size → listed.getD j false = true := by
    intro listed hsz hr
    have key : ∀ n j, j ≤ n → j < ops.size → listed.getD j false = true := by
      intro n
      induction n with
      | zero =>
        intro j hj hjs
        obtain rfl : j = 0 := by omega
        cases hl : listed.getD 0 false with
        | true => rfl
        | false =>
          exfalso
          have hm : 0 ∈ Region.ready .any ops listed := by
            refine mem_ready.2 ⟨getD_in (by omega) hl, ops[0], Array.getElem?_eq_getElem hjs, fun e he _ => ?_⟩
            have := (growB_spec hB (Array.getElem?_eq_getElem hjs)).1 e he
            omega
          rw [hr] at hm; cases hm
      | succ n ih =>
        intro j hj hjs
        by_cases hjn : j ≤ n
        · exact ih j hjn hjs
        · cases hl : listed.getD j false with
          | true => rfl
          | false =>
            exfalso
            have hm : j ∈ Region.ready .any ops listed := by
              refine mem_ready.2 ⟨getD_in (by omega) hl, ops[j], Array.getElem?_eq_getElem hjs, fun e he _ => ?_⟩
              have := (growB_spec hB (Array.getElem?_eq_getElem hjs)).1 e he
              exact ih e.on (by omega) (by omega)
            rw [hr] at hm; cases hm
    exact fun j hj => key j j (Nat.le_refl _) hj
  have hdone : ∀ (listed : Array Bool) (a : Act) (w : World), listed.size = ops.size → GrowCtx ops a0 w0 a w →
      (∀ j d, listed.getD j false = true → dstOf ops j = some d → sp j (a.tmps[d]?.getD undef) w) → Region.ready .any ops listed = [] → Q .normal a w :=
    fun listed a w hsz hc hs hr => hfin a w hc fun j d hj hd => hs j d (hall listed hsz hr j hj) hd
  intro fuel
  induction fuel with
  | zero =>
    intro listed a w hsz hcnt hc hs
    have hr : Region.ready .any ops listed = [] := by
      apply List.eq_nil_iff_forall_not_mem.2
      intro i hi
      obtain ⟨h1, o, ho, _⟩ := mem_ready.1 hi
      have hlt : i < ops.size := (Array.getElem?_eq_some_iff.1 ho).1
      have : 0 < (List.range ops.size).countP (fun i => listed.getD i true == false) :=
        List.countP_pos_iff.2 ⟨i, List.mem_range.2 hlt, by simpa using h1⟩
      omega
    exact ⟨hr, hdone listed a w hsz hc hs hr⟩
  | succ fuel ih =>
    intro listed a w hsz hcnt hc hs
    refine ⟨hdone listed a w hsz hc hs, fun i hi => ?_⟩
    obtain ⟨h1, o, ho, hrdy⟩ := mem_ready.1 hi
    have hlt : i < ops.size := (Array.getElem?_eq_some_iff.1 ho).1
    obtain ⟨hb1, hb2, hb3⟩ := growB_spec hB ho
    refine wpOp_mono (fun a' w' hK => ?_) (hob i hlt a w hc (fun j hj => ?_))
    · obtain ⟨v, rfl, hv, hgrow⟩ := hK
      have hsz' : (listed.setIfInBounds i true).size = ops.size := by simpa using hsz
      refine ih _ _ _ hsz' ?_ ⟨hc.below.trans (hgrow.mono hc.below.size), (put_defs _ _ _).trans hc.defers, (put_size _ _ _).trans hc.size, fun t ht => ?_⟩ ?_
      · -- one less
        have hlt2 : (List.range ops.size).countP (fun k => (listed.setIfInBounds i true).getD k true == false) < (List.range ops.size).countP (fun k => listed.getD k true == false) := by
          have hsub : ∀ k, ((listed.setIfInBounds i true).getD k true == false) = true → (listed.getD k true == false) = true := by
            intro k hk
            by_cases hik : i = k
            · subst hik
              simp [show i < listed.size by omega] at hk
            · rw [getD_set_ne true hik] at hk; exact hk
          have hnot : ((listed.setIfInBounds i true).getD i true == false) = false := by simp [show i < listed.size by omega]
          have hmem : i ∈ List.range ops.size := List.mem_range.2 hlt
          have h1' : (listed.getD i true == false) = true := by simpa using h1
          clear hcnt ih hdone hall hob hfin hs hc
          generalize List.range ops.size = L at hmem
          induction L with
          | nil => cases hmem
          | cons x L ihL =>
            rw [List.countP_cons, List.countP_cons]
            have hmono : L.countP (fun k => (listed.setIfInBounds i true).getD k true == false) ≤ L.countP (fun k => listed.getD k true == false) :=
              List.countP_mono_left (fun k _ hk => hsub k hk)
            rcases List.mem_cons.1 hmem with e | hm
            · subst e
              rw [if_neg (by rw [hnot]; decide), if_pos h1']
              omega
            · have h2 := ihL hm
              by_cases hx : ((listed.setIfInBounds i true).getD x true == false) = true
              · rw [if_pos hx, if_pos (hsub x hx)]; omega
              · rw [if_neg hx]; omega
        omega
      · rw [put_slot _ _ _ _ (fun e => ?_)]
        · exact hc.same t ht
        · have h2 := List.all_eq_true.1 ht i (List.mem_range.2 hlt)
          simp only [bne_iff_ne] at h2
          exact h2 e
      · intro j d hl hd
        by_cases hji : j = i
        · subst hji
          rw [hd, put_self _ _ _ (by rw [hc.size]; exact hfit _ _ hd)]
          exact hv
        · have hl' : listed.getD j false = true := by rwa [getD_set_ne false (fun e => hji e.symm)] at hl
          have hjs : j < ops.size := by
            rcases Nat.lt_or_ge j ops.size with h | h
            · exact h
            · rw [Array.getD_eq_getD_getElem?, Array.getElem?_eq_none (by omega)] at hl'; simp at hl'
          rw [put_slot _ _ _ _ (fun e => ?_)]
          · exact hst _ _ _ _ (hs j d hl' hd) hgrow
          · rcases hb3 j hjs hji with h | h
            · rw [h] at e; cases e
            · exact h (e.trans hd.symm)
    · -- what it looks at has come up
      have hjd : ∃ d, dstOf ops j = some d := by
        unfold depB at hj
        rw [ho] at hj
        cases hd : dstOf ops j with
        | none => rw [hd] at hj; cases hj
        | some d => exact ⟨d, rfl⟩
      obtain ⟨d, hd⟩ := hjd
      have hjs : j < ops.size := by
        unfold dstOf at hd
        cases hoj : ops[j]? with
        | none => rw [hoj] at hd; cases hd
        | some oj => exact (Array.getElem?_eq_some_iff.1 hoj).1
      obtain ⟨e, he, hbd, hon⟩ := hb2 j hjs hj
      have hl := hrdy e he hbd
      rw [hon] at hl
      have := hs j d hl hd
      unfold slotOf
      rw [hd]
      exact this
theorem wp_region_grow {id : Nat} {w : World} (hm : P.follows .mixedOrders = true) (sp : Nat → Value → World → Prop) (hB : growB ops = true) (hfit : ∀ i d, dstOf ops i = some d → d < a0.tmps.size)
  (hst : ∀ i v w w', sp i v w → Below w.heap.size w w' → sp i v w')
  (hob : ∀ i, i < ops.size → Oblig P ops Q a0 w.drew sp i)
  (hfin : ∀ a w', GrowCtx ops a0 w.drew a w' → (∀ j d, j < ops.size → dstOf ops j = some d → sp j (a.tmps[d]?.getD undef) w') → Q .normal a w') :
  (Code.region id ops true).wp P Q a0 w := by
 refine wp_region_any hm (wpAny_grow (w0 := w.drew) hB hfit hst hob hfin _ _ _ _ (by simp) ?_ ⟨Below.refl _ _, rfl, rfl, fun _ _ => rfl⟩ (fun j d hl _ => ?_))
 ·exact Nat.le_trans (List.countP_le_length) (by simp)
 ·rw [getD_replicate_false] at hl; cases hl
theorem wanted_none {o : Oper} {tmps : Array Value} (h : o.guard = none) : Region.wanted o (yielded ops tmps) = true := by simp [Region.wanted, h]
theorem wanted_some {o : Oper} {a : Act} {g : Nat} {b : Bool} {d : Nat} (h : o.guard = some (g, b)) (hd : dstOf ops g = some d) (hv : a.tmps[d]?.getD undef = .bool b) : Region.wanted o (yielded ops a.tmps) = true := by
 unfold Region.wanted
 rw [h]
 have : yielded ops a.tmps g = some b := by
  unfold yielded
  unfold dstOf at hd
  rw [hd]
  cases hx : a.tmps[d]? with
  | none => rw [hx] at hv; cases hv
  | some x =>
   rw [hx] at hv
   simp only [Option.getD_some] at hv
   subst hv
   simp [hx]
 simp [this]
/-- an operation that is carried out and yields a value in the world as it is -/
theorem obl_val {i : Nat} {o : Oper} {a : Act} {w : World} {v : Value} (ho : ops[i]? = some o) (hw : Region.wanted o (yielded ops a.tmps) = true) (hr : (execOp a.eval o).run P w = .ok (.value v) w) (hv : sp i v w) :
  wpOp P ops Q i (fun a' w' => ∃ v, a' = a.put (dstOf ops i) v ∧ sp i v w' ∧ Below w.heap.size w w') a w := by
 unfold wpOp
 simp only [ho, hw, if_true]
 refine .inl ?_
 unfold Oper.wp
 rw [hr]
 exact ⟨v, by unfold dstOf; rw [ho]; rfl, hv, Below.refl _ _⟩
/-- a call of a Go function that is met by a contract -/
theorem obl_call {i : Nat} {o : Oper} {a : Act} {w : World} {f : FuncId} {args : Array Value} {R : Ending → World → Prop} (ho : ops[i]? = some o) (hw : Region.wanted o (yielded ops a.tmps) = true)
  (hr : (execOp a.eval o).run P w = .ok (.enter f args) w) (hc : Calls P f args w R) (hR : ∀ e w', R e w' → ∃ v, e = .returned v ∧ sp i v w' ∧ Below w.heap.size w w') :
  wpOp P ops Q i (fun a' w' => ∃ v, a' = a.put (dstOf ops i) v ∧ sp i v w' ∧ Below w.heap.size w w') a w := by
 unfold wpOp
 simp only [ho, hw, if_true]
 refine .inl ?_
 unfold Oper.wp
 rw [hr, Oper.upon_enter]
 refine hc.mono fun e w' he => ?_
 obtain ⟨v, rfl, hv, hb⟩ := hR e w' he
 exact ⟨v, by unfold dstOf; rw [ho]; rfl, hv, hb⟩
/-- an operation that is passed over -/
theorem obl_skip {i : Nat} {o : Oper} {a : Act} {w : World} (ho : ops[i]? = some o) (hw : Region.wanted o (yielded ops a.tmps) = false) (hv : sp i undef w) :
  wpOp P ops Q i (fun a' w' => ∃ v, a' = a.put (dstOf ops i) v ∧ sp i v w' ∧ Below w.heap.size w w') a w := by
 unfold wpOp
 simp only [ho, hw]
 exact ⟨undef, by unfold dstOf; rw [ho]; rfl, hv, Below.refl _ _⟩
end
/-- what is said of a value, and stays true while the world grows -/
structure Sp where
 f : Value → World → Prop
 st : ∀ v w w', f v w → Below w.heap.size w w' → f v w'
/-- what is said of the operations, one behind the other -/
def spOf (l : List Sp) (i : Nat) (v : Value) (w : World) : Prop :=
 match l[i]? with
 | some s => s.f v w
 | none => True
theorem spOf_st (l : List Sp) : ∀ i v w w', spOf l i v w → Below w.heap.size w w' → spOf l i v w' := by
 intro i v w w' hs hb
 unfold spOf at *
 cases hi : l[i]? with
 | none => trivial
 | some f =>
  rw [hi] at hs
  exact f.st v w w' hs hb
/-- 'the value is this one' -/
def isS (c : Value) : Sp := ⟨fun v _ => v = c, fun _ _ _ h _ => h⟩
/-- nothing is said -/
def anyS : Sp := ⟨fun _ _ => True, fun _ _ _ h _ => h⟩
def slotFitB (ops : Array Oper) (n : Nat) : Bool := (List.range ops.size).all fun i => match dstOf ops i with | some d => decide (d < n) | none => true
theorem fit_of {ops : Array Oper} {a0 : Act} (h : slotFitB ops a0.tmps.size = true) : ∀ i d, dstOf ops i = some d → d < a0.tmps.size := by
 intro i d hd
 have hlt : i < ops.size := by
  unfold dstOf at hd
  cases ho : ops[i]? with
  | none => rw [ho] at hd; cases hd
  | some o => exact (Array.getElem?_eq_some_iff.1 ho).1
 have := List.all_eq_true.1 h i (List.mem_range.2 hlt)
 rw [hd] at this
 simpa using this
theorem wp_region_sp {P : Program} {ops : Array Oper} {Q : Exit → Act → World → Prop} {a0 : Act} {id : Nat} {w : World} (hm : P.follows .mixedOrders = true) (l : List Sp) (hB : growB ops = true) (hfit : slotFitB ops a0.tmps.size = true)
  (hob : ∀ i, i < ops.size → Oblig P ops Q a0 w.drew (spOf l) i)
  (hfin : ∀ a w', GrowCtx ops a0 w.drew a w' → (∀ j d, j < ops.size → dstOf ops j = some d → spOf l j (a.tmps[d]?.getD undef) w') → Q .normal a w') :
  (Code.region id ops true).wp P Q a0 w := wp_region_grow hm (spOf l) hB (fit_of hfit) (spOf_st l) hob hfin
end Go.Proofs.Ytnfpmobmfcgfnaa

/- BEHIND A DRAWN REGION WHOSE OPERATIONS ALL HAVE KNOWN VALUES: the frame, written out. -/
namespace Go.Proofs.Ytnfpmobmfcgfnaa
open Go.RowKit
/-- is every slot free, or among these? -/
def covB (ops : Array Oper) (n : Nat) (vals : List (Nat × Value)) : Bool := (List.range n).all fun t => freeB ops t || (vals.lookup t).isSome
theorem grow_frame {ops : Array Oper} {a0 a : Act} {w0 w : World} (hc : GrowCtx ops a0 w0 a w) (vals : List (Nat × Value)) (hcov : covB ops a0.tmps.size vals = true)
  (hv : ∀ p ∈ vals, a.tmps[p.1]?.getD undef = p.2) :
  a = ⟨((List.range a0.tmps.size).map fun t => (vals.lookup t).getD (a0.tmps[t]?.getD undef)).toArray, a0.defers⟩ := by
 obtain ⟨tmps, defers⟩ := a
 have h1 := hc.defers
 have h2 := hc.size
 simp only at h1 h2
 subst h1
 congr 1
 apply Array.ext
 ·simp [h2]
 ·intro i hi1 hi2
  simp only [List.getElem_toArray, List.getElem_map, List.getElem_range]
  have hi : i < a0.tmps.size := by rw [← h2]; exact hi1
  have hs := hc.same i
  simp only [Array.getElem?_eq_getElem hi1, Option.getD_some] at hs
  cases hl : vals.lookup i with
  | none =>
   have := List.all_eq_true.1 hcov i (List.mem_range.2 hi)
   rw [hl] at this
   simp only [Option.isSome_none, Bool.or_false] at this
   exact hs this
  | some v =>
   have hm : ∀ (l : List (Nat × Value)), l.lookup i = some v → (i, v) ∈ l := by
    intro l
    induction l with
    | nil => intro h; cases h
    | cons p t ih =>
     intro h
     rw [List.lookup_cons] at h
     split at h
     ·rename_i he
      rw [beq_iff_eq] at he
      cases h
      subst he
      simp
     ·exact List.mem_cons_of_mem _ (ih h)
   have := hv _ (hm vals hl)
   simp only [Array.getElem?_eq_getElem hi1, Option.getD_some] at this
   exact this
end Go.Proofs.Ytnfpmobmfcgfnaa

/- A REGION THAT DRAWS ITS ORDER, SOME OF WHOSE OPERATIONS TURN THE WORLD ONE BEHIND THE OTHER (a chain: each looks at the one before), while the others only read: one obligation an operation. Over any program. -/
namespace Go.Proofs.Ytnfpmobmfcgfnaa
open Go.RowKit
/-- each of the chain looks at the one before; all lie in the region; none twice -/
def chainOk (ops : Array Oper) : List Nat → Bool
 | [] => true
 | [i] => decide (i < ops.size)
 | i :: j :: r => decide (i < j) && depB ops j i && chainOk ops (j :: r)
section
variable {P : Program} {ops : Array Oper} {Q : Exit → Act → World → Prop} {a0 : Act}
theorem wpAny_listed (J : Array Bool → World → Prop) (sp : Nat → Value → Prop) (hB : growB ops = true) (hfit : ∀ i d, dstOf ops i = some d → d < a0.tmps.size)
    (hob : ∀ i, i < ops.size → ∀ (listed : Array Bool) (a : Act) (w : World), listed.size = ops.size → listed.getD i true = false → (∀ j, depB ops i j = true → j < ops.size → listed.getD j false = true) → GrowCtx ops a0 w a w → J listed w → (∀ j, depB ops i j = true → sp j (slotOf ops a j)) →
      wpOp P ops Q i (fun a' w' => ∃ v, a' = a.put (dstOf ops i) v ∧ sp i v ∧ J (listed.setIfInBounds i true) w') a w)
    (hfin : ∀ (listed : Array Bool) a w, listed.size = ops.size → (∀ j, j < ops.size → listed.getD j false = true) → GrowCtx ops a0 w a w → J listed w → (∀ j d, j < ops.size → dstOf ops j = some d → sp j (a.tmps[d]?.getD undef)) → Q .normal a w) :
    ∀ (fuel : Nat) (listed : Array Bool) (a : Act) (w : World), listed.size = ops.size → (List.range ops.size).countP (fun i => listed.getD i true == false) ≤ fuel → GrowCtx ops a0 w a w → J listed w →
      (∀ j d, listed.getD j false = true → dstOf ops j = some d → sp j (a.tmps[d]?.getD undef)) → wpAny P .any ops Q fuel listed a w := by
  have hall : ∀ listed : Array Bool, listed.size = ops.size → Region.ready .any ops listed = [] → ∀ j, j < ops.size → listed.getD j false = true := by
    intro listed hsz hr
    have key : ∀ n j, j ≤ n → j < ops.size → listed.getD j false = true := by
      intro n
      induction n with
      | zero =>
        intro j hj hjs
        obtain rfl : j = 0 := by omega
        cases hl : listed.getD 0 false with
        | true => rfl
        | false =>
          exfalso
          have hm : 0 ∈ Region.ready .any ops listed := by
            refine mem_ready.2 ⟨getD_in (by omega) hl, ops[0], Array.getElem?_eq_getElem hjs, fun e he _ => ?_⟩
            have := (growB_spec hB (Array.getElem?_eq_getElem hjs)).1 e he
            omega
          rw [hr] at hm; cases hm
      | succ n ih =>
        intro j hj hjs
        by_cases hjn : j ≤ n
        · exact ih j hjn hjs
        · cases hl : listed.getD j false with
          | true => rfl
          | false =>
            exfalso
            have hm : j ∈ Region.ready .any ops listed := by
              refine mem_ready.2 ⟨getD_in (by omega) hl, ops[j], Array.getElem?_eq_getElem hjs, fun e he _ => ?_⟩
              have := (growB_spec hB (Array.getElem?_eq_getElem hjs)).1 e he
              exact ih e.on (by omega) (by omega)
            rw [hr] at hm; cases hm
    exact fun j hj => key j j (Nat.le_refl _) hj
  have hdone : ∀ (listed : Array Bool) (a : Act) (w : World), listed.size = ops.size → GrowCtx ops a0 w a w → J listed w →
      (∀ j d, listed.getD j false = true → dstOf ops j = some d → sp j (a.tmps[d]?.getD undef)) → Region.ready .any ops listed = [] → Q .normal a w :=
    fun listed a w hsz hc hJ hs hr => hfin listed a w hsz (hall listed hsz hr) hc hJ fun j d hj hd => hs j d (hall listed hsz hr j hj) hd
  intro fuel
  induction fuel with
  | zero =>
    intro listed a w hsz hcnt hc hJ hs
    have hr : Region.ready .any ops listed = [] := by
      apply List.eq_nil_iff_forall_not_mem.2
      intro i hi
      obtain ⟨h1, o, ho, _⟩ := mem_ready.1 hi
      have hlt : i < ops.size := (Array.getElem?_eq_some_iff.1 ho).1
      have : 0 < (List.range ops.size).countP (fun i => listed.getD i true == false) :=
        List.countP_pos_iff.2 ⟨i, List.mem_range.2 hlt, by simpa using h1⟩
      omega
    exact ⟨hr, hdone listed a w hsz hc hJ hs hr⟩
  | succ fuel ih =>
    intro listed a w hsz hcnt hc hJ hs
    refine ⟨hdone listed a w hsz hc hJ hs, fun i hi => ?_⟩
    obtain ⟨h1, o, ho, hrdy⟩ := mem_ready.1 hi
    have hlt : i < ops.size := (Array.getElem?_eq_some_iff.1 ho).1
    obtain ⟨hb1, hb2, hb3⟩ := growB_spec hB ho
    have hdl : ∀ j, depB ops i j = true → j < ops.size → listed.getD j false = true := fun j hj hjs => by
      obtain ⟨e, he, hbd, hon⟩ := hb2 j hjs hj
      have hl := hrdy e he hbd
      rwa [hon] at hl
    refine wpOp_mono (fun a' w' hK => ?_) (hob i hlt listed a w hsz h1 hdl hc hJ (fun j hj => ?_))
    · obtain ⟨v, rfl, hv, hJ'⟩ := hK
      have hsz' : (listed.setIfInBounds i true).size = ops.size := by simpa using hsz
      refine ih _ _ _ hsz' ?_ ⟨Below.refl _ _, (put_defs _ _ _).trans hc.defers, (put_size _ _ _).trans hc.size, fun t ht => ?_⟩ hJ' ?_
      · have hlt2 : (List.range ops.size).countP (fun k => (listed.setIfInBounds i true).getD k true == false) < (List.range ops.size).countP (fun k => listed.getD k true == false) := by
          have hsub : ∀ k, ((listed.setIfInBounds i true).getD k true == false) = true → (listed.getD k true == false) = true := by
            intro k hk
            by_cases hik : i = k
            · subst hik
              simp [show i < listed.size by omega] at hk
            · rw [getD_set_ne true hik] at hk; exact hk
          have hnot : ((listed.setIfInBounds i true).getD i true == false) = false := by simp [show i < listed.size by omega]
          have hmem : i ∈ List.range ops.size := List.mem_range.2 hlt
          have h1' : (listed.getD i true == false) = true := by simpa using h1
          clear hcnt ih hdone hall hob hfin hs hc hJ hJ' hdl
          generalize List.range ops.size = L at hmem
          induction L with
          | nil => cases hmem
          | cons x L ihL =>
            rw [List.countP_cons, List.countP_cons]
            have hmono : L.countP (fun k => (listed.setIfInBounds i true).getD k true == false) ≤ L.countP (fun k => listed.getD k true == false) :=
              List.countP_mono_left (fun k _ hk => hsub k hk)
            rcases List.mem_cons.1 hmem with e | hm
            · subst e
              rw [if_neg (by rw [hnot]; decide), if_pos h1']
              omega
            · have h2 := ihL hm
              by_cases hx : ((listed.setIfInBounds i true).getD x true == false) = true
              · rw [if_pos hx, if_pos (hsub x hx)]; omega
              · rw [if_neg hx]; omega
        omega
      · rw [put_slot _ _ _ _ (fun e => ?_)]
        · exact hc.same t ht
        · have h2 := List.all_eq_true.1 ht i (List.mem_range.2 hlt)
          simp only [bne_iff_ne] at h2
          exact h2 e
      · intro j d hl hd
        by_cases hji : j = i
        · subst hji
          rw [hd, put_self _ _ _ (by rw [hc.size]; exact hfit _ _ hd)]
          exact hv
        · have hl' : listed.getD j false = true := by rwa [getD_set_ne false (fun e => hji e.symm)] at hl
          have hjs : j < ops.size := by
            rcases Nat.lt_or_ge j ops.size with h | h
            · exact h
            · rw [Array.getD_eq_getD_getElem?, Array.getElem?_eq_none (by omega)] at hl'; simp at hl'
          rw [put_slot _ _ _ _ (fun e => ?_)]
          · exact hs j d hl' hd
          · rcases hb3 j hjs hji with h | h
            · rw [h] at e; cases e
            · exact h (e.trans hd.symm)
    · have hjd : ∃ d, dstOf ops j = some d := by
        unfold depB at hj
        rw [ho] at hj
        cases hd : dstOf ops j with
        | none => rw [hd] at hj; cases hj
        | some d => exact ⟨d, rfl⟩
      obtain ⟨d, hd⟩ := hjd
      have hjs : j < ops.size := by
        unfold dstOf at hd
        cases hoj : ops[j]? with
        | none => rw [hoj] at hd; cases hd
        | some oj => exact (Array.getElem?_eq_some_iff.1 hoj).1
      have := hs j d (hdl j hj hjs) hd
      unfold slotOf
      rw [hd]
      exact this
theorem chain_lt : ∀ {cs : List Nat}, chainOk ops cs = true → ∀ i ∈ cs, i < ops.size
 | [], _, i, h => by cases h
 | [i], h, j, hj => by
  rw [List.mem_singleton] at hj
  subst hj
  simpa [chainOk] using h
 | i :: j :: r, h, k, hk => by
  simp only [chainOk, Bool.and_eq_true, decide_eq_true_eq] at h
  have hr := chain_lt h.2
  rcases List.mem_cons.1 hk with rfl | hk
  ·have := hr j (by simp); omega
  ·exact hr k hk
theorem chain_inc : ∀ {cs : List Nat}, chainOk ops cs = true → ∀ (k : Nat) (h : k + 1 < cs.length), cs[k] < cs[k + 1] ∧ depB ops cs[k + 1] cs[k] = true
 | [], _, k, h => by simp at h
 | [i], _, k, h => by simp at h
 | i :: j :: r, hc, k, h => by
  simp only [chainOk, Bool.and_eq_true, decide_eq_true_eq] at hc
  cases k with
  | zero => exact ⟨hc.1.1, hc.1.2⟩
  | succ k =>
   have := chain_inc hc.2 k (by simpa using h)
   simpa using this
theorem chain_mono {cs : List Nat} (hc : chainOk ops cs = true) : ∀ (j i : Nat) (hj : j < cs.length) (hij : i < j), cs[i]'(by omega) < cs[j] := by
 intro j
 induction j with
 | zero => intro i hj hij; omega
 | succ j ih =>
  intro i hj hij
  have h1 := (chain_inc hc j hj).1
  by_cases e : i = j
  ·subst e; exact h1
  ·exact Nat.lt_trans (ih i (by omega) (by omega)) h1
/-- so many of the chain have come up -/
def chainJ (cs : List Nat) (I : Nat → World → Prop) (listed : Array Bool) (w : World) : Prop :=
 ∃ m, m ≤ cs.length ∧ (∀ (k : Nat) (h : k < cs.length), listed.getD cs[k] false = true ↔ k < m) ∧ I m w
theorem wp_region_chain {id : Nat} {w : World} (hm : P.follows .mixedOrders = true) (vs : List Value) (cs : List Nat) (I : Nat → World → Prop) (hcs : chainOk ops cs = true) (hB : growB ops = true) (hfit : slotFitB ops a0.tmps.size = true)
    (hI : ∀ m w w', I m w → Below w.heap.size w w' → I m w') (hI0 : I 0 w)
    (hread : ∀ i, i < ops.size → cs.contains i = false → ∀ (m : Nat) (a : Act) (w : World), GrowCtx ops a0 w a w → I m w → (∀ j, depB ops i j = true → spOf (vs.map isS) j (slotOf ops a j) w) →
      wpOp P ops Q i (fun a' w' => ∃ v, a' = a.put (dstOf ops i) v ∧ spOf (vs.map isS) i v w' ∧ Below w.heap.size w w') a w)
    (hcall : ∀ (k : Nat) (hk : k < cs.length) (a : Act) (w : World), GrowCtx ops a0 w a w → I k w → (∀ j, depB ops cs[k] j = true → spOf (vs.map isS) j (slotOf ops a j) w) →
      wpOp P ops Q cs[k] (fun a' w' => ∃ v, a' = a.put (dstOf ops cs[k]) v ∧ spOf (vs.map isS) cs[k] v w' ∧ I (k + 1) w') a w)
    (hfin : ∀ a w', GrowCtx ops a0 w' a w' → I cs.length w' → (∀ j d, j < ops.size → dstOf ops j = some d → spOf (vs.map isS) j (a.tmps[d]?.getD undef) w') → Q .normal a w') :
    (Code.region id ops true).wp P Q a0 w := by
  have hsp : ∀ i v (w w' : World), spOf (vs.map isS) i v w → spOf (vs.map isS) i v w' := fun i v w w' h => by
    unfold spOf at *
    rw [List.getElem?_map] at *
    cases hv : vs[i]? with
    | none => trivial
    | some x => rw [hv] at h; exact h
  refine wp_region_any hm (wpAny_listed (a0 := a0) (chainJ cs I) (fun i v => spOf (vs.map isS) i v w) hB (fit_of hfit) ?_ ?_ _ _ _ _ (by simp) ?_ ⟨Below.refl _ _, rfl, rfl, fun _ _ => rfl⟩ ?_ (fun j d hl _ => ?_))
  · intro i hi listed a w1 hsz hnl hdl hc hJ hd
    obtain ⟨m, hml, hmi, hI1⟩ := hJ
    have hself : (listed.setIfInBounds i true).getD i false = true := by simp [show i < listed.size by omega]
    by_cases hin : cs.contains i = true
    · obtain ⟨k, hk, rfl⟩ := List.getElem_of_mem (List.contains_iff_mem.1 hin)
      have hmk : m = k := by
        have h1 : ¬ k < m := fun h => by
          have := (hmi k hk).2 h
          rw [Array.getD_eq_getD_getElem?] at hnl this
          rw [Array.getElem?_eq_getElem (by omega)] at hnl this
          simp at hnl this
          rw [hnl] at this; cases this
        have h2 : ¬ m < k := fun h => by
          obtain ⟨k', rfl⟩ : ∃ k', k = k' + 1 := ⟨k - 1, by omega⟩
          have hdep := (chain_inc hcs k' hk).2
          have := (hmi k' (by omega)).1 (hdl _ hdep (chain_lt hcs _ (List.getElem_mem _)))
          omega
        omega
      subst hmk
      refine wpOp_mono (fun a' w' hK => ?_) (hcall m hk a w1 hc hI1 (fun j hj => hsp _ _ _ _ (hd j hj)))
      obtain ⟨v, e, hv, hI2⟩ := hK
      refine ⟨v, e, hsp _ _ _ _ hv, m + 1, by omega, fun k h => ?_, hI2⟩
      by_cases hkm : k = m
      · subst hkm
        exact ⟨fun _ => by omega, fun _ => hself⟩
      · have hne : cs[m] ≠ cs[k] := fun e => by
          rcases Nat.lt_or_gt_of_ne hkm with h3 | h3
          · have := chain_mono hcs m k hk h3; omega
          · have := chain_mono hcs k m h h3; omega
        rw [getD_set_ne false hne, hmi k h]
        omega
    · have hin : cs.contains i = false := by simpa using hin
      refine wpOp_mono (fun a' w' hK => ?_) (hread i hi hin m a w1 hc hI1 (fun j hj => hsp _ _ _ _ (hd j hj)))
      obtain ⟨v, e, hv, hb⟩ := hK
      refine ⟨v, e, hsp _ _ _ _ hv, m, hml, fun k h => ?_, hI _ _ _ hI1 hb⟩
      have hne : i ≠ cs[k] := fun e => by
        have : cs.contains i = true := List.contains_iff_mem.2 (e ▸ List.getElem_mem h)
        rw [hin] at this; cases this
      rw [getD_set_ne false hne, hmi k h]
  · intro listed a w1 hsz hall hc hJ hv
    obtain ⟨m, hml, hmi, hI1⟩ := hJ
    have hm2 : m = cs.length := by
      rcases Nat.lt_or_ge m cs.length with h | h
      · have := (hmi m h).1 (hall _ (chain_lt hcs _ (List.getElem_mem _)))
        omega
      · omega
    subst hm2
    exact hfin a w1 hc hI1 (fun j d hj hd => hsp _ _ _ _ (hv j d hj hd))
  · exact Nat.le_trans (List.countP_le_length) (by simp)
  · refine ⟨0, Nat.zero_le _, fun k h => ⟨fun e => ?_, fun e => by omega⟩, hI _ _ _ hI0 (Below.refl _ _).drew⟩
    rw [getD_replicate_false] at e
    cases e
  · rw [getD_replicate_false] at hl; cases hl
/-- a call that turns the world, met by a contract -/
theorem obl_callK {i : Nat} {o : Oper} {a : Act} {w : World} {f : FuncId} {args : Array Value} {R : Ending → World → Prop} {K : Act → World → Prop} (ho : ops[i]? = some o) (hw : Region.wanted o (yielded ops a.tmps) = true)
  (hr : (execOp a.eval o).run P w = .ok (.enter f args) w) (hc : Calls P f args w R) (hR : ∀ e w', R e w' → ∃ v, e = .returned v ∧ K (a.put (dstOf ops i) v) w') : wpOp P ops Q i K a w := by
 unfold wpOp
 simp only [ho, hw, if_true]
 refine .inl ?_
 unfold Oper.wp
 rw [hr, Oper.upon_enter]
 refine hc.mono fun e w' he => ?_
 obtain ⟨v, rfl, hK⟩ := hR e w' he
 have hd : dstOf ops i = o.dst := by unfold dstOf; rw [ho]; rfl
 rw [hd] at hK
 exact hK
end
end Go.Proofs.Ytnfpmobmfcgfnaa

/- A DRAWN REGION: a head whose operations only read or make new memory, in whatever order; a tail that waits for it, one behind the other (a store at the end, an append and a store ..). -/
namespace Go.Proofs.Ytnfpmobmfcgfnaa
open Go.RowKit
section
variable {P : Program} {ops : Array Oper} {Q : Exit → Act → World → Prop} {a0 : Act} {w0 : World} {sp : Nat → Value → World → Prop} {n : Nat}
/-- all of the head have come up, none of the tail -/
def canon (ops : Array Oper) (n : Nat) : Array Bool := Array.ofFn fun i : Fin ops.size => decide (i.val < n)
theorem canon_of {listed : Array Bool} (hsz : listed.size = ops.size) (h1 : ∀ i, i < n → i < ops.size → listed.getD i false = true) (h2 : ∀ i, n ≤ i → i < ops.size → listed.getD i true = false) : listed = canon ops n := by
 apply Array.ext
 ·simp [canon, hsz]
 ·intro i h3 h4
  have hi : i < ops.size := by omega
  simp only [canon, Array.getElem_ofFn]
  by_cases h : i < n
  ·have := h1 i h hi
   rw [Array.getD_eq_getD_getElem?, Array.getElem?_eq_getElem h3] at this
   simpa [h] using this
  ·have := h2 i (by omega) hi
   rw [Array.getD_eq_getD_getElem?, Array.getElem?_eq_getElem h3] at this
   simpa [h] using this
end
end Go.Proofs.Ytnfpmobmfcgfnaa

/- A DRAWN REGION: a head in whatever order, ONE operation e of which writes (an append onto a row of one's own), all others of which only read or make new memory; a tail that waits for it. -/
namespace Go.Proofs.Ytnfpmobmfcgfnaa
open Go.RowKit
structure OneCtx (ops : Array Oper) (S : Nat → Prop) (a0 : Act) (w0 : World) (a : Act) (w : World) : Prop where
 kept : Kept S w0 w
 defers : a.defers = a0.defers
 size : a.tmps.size = a0.tmps.size
 same : ∀ t, freeB ops t = true → a.tmps[t]?.getD undef = a0.tmps[t]?.getD undef
def ObligOne (P : Program) (ops : Array Oper) (Q : Exit → Act → World → Prop) (S : Nat → Prop) (a0 : Act) (w0 : World) (sp : Nat → Value → World → Prop) (i : Nat) : Prop :=
  ∀ (a : Act) (w : World), OneCtx ops S a0 w0 a w → (∀ j, depB ops i j = true → sp j (slotOf ops a j) w) →
    wpOp P ops Q i (fun a' w' => ∃ v, a' = a.put (dstOf ops i) v ∧ sp i v w' ∧ Below w.heap.size w w') a w
def ObligE (P : Program) (ops : Array Oper) (Q : Exit → Act → World → Prop) (S : Nat → Prop) (a0 : Act) (w0 : World) (sp : Nat → Value → World → Prop) (i : Nat) : Prop :=
  ∀ (a : Act) (w : World), OneCtx ops S a0 w0 a w → Below w0.heap.size w0 w → (∀ j, depB ops i j = true → sp j (slotOf ops a j) w) →
    wpOp P ops Q i (fun a' w' => ∃ v, a' = a.put (dstOf ops i) v ∧ sp i v w' ∧ Kept S w w') a w
section
variable {P : Program} {ops : Array Oper} {Q : Exit → Act → World → Prop} {a0 : Act} {w0 : World} {sp : Nat → Value → World → Prop} {n : Nat}
theorem wpAny_one_tail {S : Nat → Prop} {e : Nat} (hB : growB ops = true) (hfit : ∀ i d, dstOf ops i = some d → d < a0.tmps.size) (hst : ∀ i v w w', sp i v w → Below w.heap.size w w' → sp i v w') (hst2 : ∀ i v w w', i ≠ e → sp i v w → Kept S w w' → sp i v w')
    (hs : Region.sinkB .any ops n = true) (hc : Region.chainB .any ops n = true) (hn : n < ops.size) (hseq : Region.seqB .any ops (ops.toList.drop n).length n (canon ops n) = true)
    (hob : ∀ i, i < n → i ≠ e → ObligOne P ops Q S a0 w0 sp i)
    (hobe : e < n → ObligE P ops Q S a0 w0 sp e)
    (hfin : ∀ a w, OneCtx ops S a0 w0 a w → (∀ j d, j < n → dstOf ops j = some d → sp j (a.tmps[d]?.getD undef) w) → wpList P ops Q (ops.toList.drop n) a w) :
    ∀ (c : Nat) (listed : Array Bool) (a : Act) (w : World), HeadInv .any ops n listed → (List.range n).countP (fun i => listed.getD i true == false) = c → OneCtx ops S a0 w0 a w →
      (listed.getD e true = false → Below w0.heap.size w0 w) → (∀ j d, listed.getD j false = true → dstOf ops j = some d → sp j (a.tmps[d]?.getD undef) w) → wpAny P .any ops Q (c + (ops.toList.drop n).length) listed a w := by
  intro c
  induction c with
  | zero =>
    intro listed a w inv hcnt hg hpre hsp
    have hall : ∀ i, i < n → listed.getD i false = true := by
      intro i hi
      have h0 := List.countP_eq_zero.1 hcnt i (List.mem_range.2 hi)
      have hi' : i < listed.size := by rw [inv.size]; omega
      simp only [beq_iff_eq, Bool.not_eq_false] at h0
      rw [Array.getD_eq_getD_getElem?, Array.getElem?_eq_getElem hi'] at h0 ⊢
      simpa using h0
    have he := canon_of (n := n) inv.size (fun i hi _ => hall i hi) (fun i hi hi' => inv.tail i hi hi')
    rw [Nat.zero_add]
    refine wpAny_of_seq (ops.toList.drop n) n listed a w (fun j => ?_) (by rw [he]; exact hseq) (hfin a w hg fun j d hj hd => hsp j d (hall j hj) hd)
    rw [List.getElem?_drop, Array.getElem?_toList]
  | succ c ih =>
    intro listed a w inv hcnt hg hpre hsp
    have hex : ∃ i, i < n ∧ listed.getD i true = false := by
      obtain ⟨i, hi, h⟩ := List.countP_pos_iff.1 (by omega : 0 < (List.range n).countP (fun i => listed.getD i true == false))
      exact ⟨i, List.mem_range.1 hi, by simpa using h⟩
    rw [show c + 1 + (ops.toList.drop n).length = (c + (ops.toList.drop n).length) + 1 by omega]
    refine ⟨fun hr => ?_, fun i hi => ?_⟩
    · -- the least that has not come up may come up
      exfalso
      have key : ∀ d i, i ≤ d → i < n → listed.getD i true = false → ∃ k, k ∈ Region.ready .any ops listed := by
        intro d
        induction d using Nat.strongRecOn with
        | _ d ihd =>
          intro i hid hin hun
          have his : i < ops.size := by omega
          by_cases hall : ∀ e ∈ ops[i].after, Region.binds .any e = true → listed.getD e.on false = true
          · exact ⟨i, mem_ready.2 ⟨hun, ops[i], Array.getElem?_eq_getElem his, hall⟩⟩
          · obtain ⟨e, hall⟩ := Classical.not_forall.1 hall
            obtain ⟨he, hall⟩ := Classical.not_imp.1 hall
            obtain ⟨hb, hne⟩ := Classical.not_imp.1 hall
            have hlt := (growB_spec hB (Array.getElem?_eq_getElem his)).1 e he
            have hun2 : listed.getD e.on true = false := getD_in (by rw [inv.size]; omega) (by simpa using hne)
            exact ihd e.on (by omega) e.on (Nat.le_refl _) (by omega) hun2
      obtain ⟨i, hi, hun⟩ := hex
      obtain ⟨k, hk⟩ := key i i (Nat.le_refl _) hi hun
      rw [hr] at hk; cases hk
    · obtain ⟨h1, o, ho, hrdy⟩ := mem_ready.1 hi
      have hlt : i < ops.size := (Array.getElem?_eq_some_iff.1 ho).1
      have hin : i < n := by
        rcases Nat.lt_or_ge i n with h | h
        · exact h
        · obtain ⟨k, hk, hun⟩ := hex
          exact absurd hi (tail_waits hs hc hn inv _ k rfl hk hun i h)
      obtain ⟨hb1, hb2, hb3⟩ := growB_spec hB ho
      have go : ∀ (v : Value) (w' : World), sp i v w' → Kept S w w' → ((listed.setIfInBounds i true).getD e true = false → Below w0.heap.size w0 w') → (∀ j, j ≠ i → ∀ u, sp j u w → sp j u w') → wpAny P .any ops Q (c + (ops.toList.drop n).length) (listed.setIfInBounds i true) (a.put (dstOf ops i) v) w' := by
        intro v w' hv hkp hpre' hstep
        refine ih _ _ _ (inv.set hi hin) ?_ ⟨hg.kept.trans hkp (fun _ _ h => h), (put_defs _ _ _).trans hg.defers, (put_size _ _ _).trans hg.size, fun t ht => ?_⟩ ?_ ?_
        · -- one less
          have hi' : i < listed.size := by rw [inv.size]; exact hlt
          have hsame : ∀ k, k ≠ i → ((listed.setIfInBounds i true).getD k true == false) = (listed.getD k true == false) := fun k hk => by rw [getD_set_ne true (fun e => hk e.symm)]
          have hnot : ((listed.setIfInBounds i true).getD i true == false) = false := by simp [hi']
          have h1' : (listed.getD i true == false) = true := by simpa using h1
          have hmem : i ∈ List.range n := List.mem_range.2 hin
          have hnd : (List.range n).Nodup := List.nodup_range
          clear ih hob hfin hsp hg hrdy
          have : ∀ L : List Nat, i ∈ L → L.Nodup → L.countP (fun k => (listed.setIfInBounds i true).getD k true == false) + 1 = L.countP (fun k => listed.getD k true == false) := by
            intro L
            induction L with
            | nil => intro h; cases h
            | cons x L ihL =>
              intro hm hd
              rw [List.countP_cons, List.countP_cons]
              rw [List.nodup_cons] at hd
              by_cases hx : x = i
              · subst hx
                have : L.countP (fun k => (listed.setIfInBounds x true).getD k true == false) = L.countP (fun k => listed.getD k true == false) := by
                  apply List.countP_congr
                  intro k hk
                  rw [hsame k (fun e => hd.1 (e ▸ hk))]
                rw [this, if_neg (by rw [hnot]; decide), if_pos h1']
              · have h2 := ihL ((List.mem_cons.1 hm).resolve_left (fun e => hx e.symm)) hd.2
                rw [hsame x hx]
                omega
          have := this _ hmem hnd
          omega
        · rw [put_slot _ _ _ _ (fun e => ?_)]
          · exact hg.same t ht
          · have h2 := List.all_eq_true.1 ht i (List.mem_range.2 hlt)
            simp only [bne_iff_ne] at h2
            exact h2 e
        · exact hpre'
        · intro j d hl hd
          by_cases hji : j = i
          · subst hji
            rw [hd, put_self _ _ _ (by rw [hg.size]; exact hfit _ _ hd)]
            exact hv
          · have hl' : listed.getD j false = true := by rwa [getD_set_ne false (fun e => hji e.symm)] at hl
            have hjs : j < ops.size := by
              rcases Nat.lt_or_ge j ops.size with h | h
              · exact h
              · rw [Array.getD_eq_getD_getElem?, Array.getElem?_eq_none (by rw [inv.size]; omega)] at hl'; simp at hl'
            rw [put_slot _ _ _ _ (fun e => ?_)]
            · exact hstep j hji _ (hsp j d hl' hd)
            · rcases hb3 j hjs hji with h | h
              · rw [h] at e; cases e
              · exact h (e.trans hd.symm)
      have hdep : ∀ j, depB ops i j = true → sp j (slotOf ops a j) w := by
        intro j hj
        have hjd : ∃ d, dstOf ops j = some d := by
          unfold depB at hj
          rw [ho] at hj
          cases hd : dstOf ops j with
          | none => rw [hd] at hj; cases hj
          | some d => exact ⟨d, rfl⟩
        obtain ⟨d, hd⟩ := hjd
        have hjs : j < ops.size := by
          unfold dstOf at hd
          cases hoj : ops[j]? with
          | none => rw [hoj] at hd; cases hd
          | some oj => exact (Array.getElem?_eq_some_iff.1 hoj).1
        obtain ⟨e, he, hbd, hon⟩ := hb2 j hjs hj
        have hl := hrdy e he hbd
        rw [hon] at hl
        have := hsp j d hl hd
        unfold slotOf
        rw [hd]
        exact this
      by_cases hie : i = e
      · subst hie
        refine wpOp_mono (fun a' w' hK => ?_) (hobe hin a w hg (hpre h1) hdep)
        obtain ⟨v, rfl, hv, hkp⟩ := hK
        refine go v w' hv hkp (fun h => ?_) (fun j hj u hu => hst2 _ _ _ _ hj hu hkp)
        rw [show (listed.setIfInBounds i true).getD i true = true by simp [show i < listed.size by rw [inv.size]; exact hlt]] at h
        cases h
      · refine wpOp_mono (fun a' w' hK => ?_) (hob i hin hie a w hg hdep)
        obtain ⟨v, rfl, hv, hgrow⟩ := hK
        refine go v w' hv (Kept.ofBelow hgrow) (fun h => ?_) (fun j hj u hu => hst _ _ _ _ hu hgrow)
        rw [getD_set_ne true (fun x => hie x)] at h
        have hb := hpre h
        exact hb.trans (hgrow.mono hb.size)
end
theorem wp_region_oneE {P : Program} {ops : Array Oper} {Q : Exit → Act → World → Prop} {a0 : Act} {id : Nat} {w : World} {S : Nat → Prop} (e n : Nat) (hm : P.follows .mixedOrders = true) (l : List Sp) (hst2 : ∀ i v w w', i ≠ e → spOf l i v w → Kept S w w' → spOf l i v w') (hB : growB ops = true) (hfit : slotFitB ops a0.tmps.size = true)
  (hs : Region.sinkB .any ops n = true) (hc : Region.chainB .any ops n = true) (hn : n < ops.size) (hseq : Region.seqB .any ops (ops.toList.drop n).length n (canon ops n) = true)
  (hob : ∀ i, i < n → i ≠ e → ObligOne P ops Q S a0 w.drew (spOf l) i)
  (hobe : e < n → ObligE P ops Q S a0 w.drew (spOf l) e)
  (hfin : ∀ a w', OneCtx ops S a0 w.drew a w' → (∀ j d, j < n → dstOf ops j = some d → spOf l j (a.tmps[d]?.getD undef) w') → wpList P ops Q (ops.toList.drop n) a w') :
  (Code.region id ops true).wp P Q a0 w := by
 refine wp_region_any hm ?_
 have hrep : ∀ i, i < ops.size → (Array.replicate ops.size false).getD i true = false := fun i hi => getD_in (by simpa using hi) (getD_replicate_false _ _)
 have inv0 : HeadInv .any ops n (Array.replicate ops.size false) :=
  ⟨by simp, fun j oj _ hl => (by rw [getD_replicate_false] at hl; cases hl), fun t _ ht => hrep t ht⟩
 have hcnt : (List.range n).countP (fun i => (Array.replicate ops.size false).getD i true == false) = n := by
  have : (List.range n).countP (fun i => (Array.replicate ops.size false).getD i true == false) = (List.range n).length := by
   apply List.countP_eq_length.2
   intro i hi
   rw [hrep i (by have := List.mem_range.1 hi; omega)]; rfl
  rw [this, List.length_range]
 have H := wpAny_one_tail (P := P) (Q := Q) (a0 := a0) (w0 := w.drew) (sp := spOf l) (S := S) (e := e) hB (fit_of hfit) (spOf_st l) hst2 hs hc hn hseq hob hobe hfin n _ a0 w.drew inv0 hcnt ⟨Kept.refl _ _, rfl, rfl, fun _ _ => rfl⟩ (fun _ => Below.refl _ _) (fun j d hl _ => by rw [getD_replicate_false] at hl; cases hl)
 rw [show n + (ops.toList.drop n).length = ops.size by rw [List.length_drop, Array.length_toList]; omega] at H
 exact H
end Go.Proofs.Ytnfpmobmfcgfnaa

/- AS Gr8; what the chain hands on may be told of the slots. Over any program. -/
namespace Go.Proofs.Ytnfpmobmfcgfnaa
open Go.RowKit
def spO (o : Option Value) : Sp := match o with | some v => isS v | none => anyS
section
variable {P : Program} {ops : Array Oper} {Q : Exit → Act → World → Prop} {a0 : Act}
theorem wpAny_listedA (J : Array Bool → Act → World → Prop) (sp : Nat → Value → Prop) (hB : growB ops = true) (hfit : ∀ i d, dstOf ops i = some d → d < a0.tmps.size)
    (hob : ∀ i, i < ops.size → ∀ (listed : Array Bool) (a : Act) (w : World), listed.size = ops.size → listed.getD i true = false → (∀ j, depB ops i j = true → j < ops.size → listed.getD j false = true) → GrowCtx ops a0 w a w → J listed a w → (∀ j, depB ops i j = true → sp j (slotOf ops a j)) →
      wpOp P ops Q i (fun a' w' => ∃ v, a' = a.put (dstOf ops i) v ∧ sp i v ∧ J (listed.setIfInBounds i true) a' w') a w)
    (hfin : ∀ (listed : Array Bool) a w, listed.size = ops.size → (∀ j, j < ops.size → listed.getD j false = true) → GrowCtx ops a0 w a w → J listed a w → (∀ j d, j < ops.size → dstOf ops j = some d → sp j (a.tmps[d]?.getD undef)) → Q .normal a w) :
    ∀ (fuel : Nat) (listed : Array Bool) (a : Act) (w : World), listed.size = ops.size → (List.range ops.size).countP (fun i => listed.getD i true == false) ≤ fuel → GrowCtx ops a0 w a w → J listed a w →
      (∀ j d, listed.getD j false = true → dstOf ops j = some d → sp j (a.tmps[d]?.getD undef)) → wpAny P .any ops Q fuel listed a w := by
  have hall : ∀ listed : Array Bool, listed.size = ops.size → Region.ready .any ops listed = [] → ∀ j, j < ops.size → listed.getD j false = true := by
    intro listed hsz hr
    have key : ∀ n j, j ≤ n → j < ops.size → listed.getD j false = true := by
      intro n
      induction n with
      | zero =>
        intro j hj hjs
        obtain rfl : j = 0 := by omega
        cases hl : listed.getD 0 false with
        | true => rfl
        | false =>
          exfalso
          have hm : 0 ∈ Region.ready .any ops listed := by
            refine mem_ready.2 ⟨getD_in (by omega) hl, ops[0], Array.getElem?_eq_getElem hjs, fun e he _ => ?_⟩
            have := (growB_spec hB (Array.getElem?_eq_getElem hjs)).1 e he
            omega
          rw [hr] at hm; cases hm
      | succ n ih =>
        intro j hj hjs
        by_cases hjn : j ≤ n
        · exact ih j hjn hjs
        · cases hl : listed.getD j false with
          | true => rfl
          | false =>
            exfalso
            have hm : j ∈ Region.ready .any ops listed := by
              refine mem_ready.2 ⟨getD_in (by omega) hl, ops[j], Array.getElem?_eq_getElem hjs, fun e he _ => ?_⟩
              have := (growB_spec hB (Array.getElem?_eq_getElem hjs)).1 e he
              exact ih e.on (by omega) (by omega)
            rw [hr] at hm; cases hm
    exact fun j hj => key j j (Nat.le_refl _) hj
  have hdone : ∀ (listed : Array Bool) (a : Act) (w : World), listed.size = ops.size → GrowCtx ops a0 w a w → J listed a w →
      (∀ j d, listed.getD j false = true → dstOf ops j = some d → sp j (a.tmps[d]?.getD undef)) → Region.ready .any ops listed = [] → Q .normal a w :=
    fun listed a w hsz hc hJ hs hr => hfin listed a w hsz (hall listed hsz hr) hc hJ fun j d hj hd => hs j d (hall listed hsz hr j hj) hd
  intro fuel
  induction fuel with
  | zero =>
    intro listed a w hsz hcnt hc hJ hs
    have hr : Region.ready .any ops listed = [] := by
      apply List.eq_nil_iff_forall_not_mem.2
      intro i hi
      obtain ⟨h1, o, ho, _⟩ := mem_ready.1 hi
      have hlt : i < ops.size := (Array.getElem?_eq_some_iff.1 ho).1
      have : 0 < (List.range ops.size).countP (fun i => listed.getD i true == false) :=
        List.countP_pos_iff.2 ⟨i, List.mem_range.2 hlt, by simpa using h1⟩
      omega
    exact ⟨hr, hdone listed a w hsz hc hJ hs hr⟩
  | succ fuel ih =>
    intro listed a w hsz hcnt hc hJ hs
    refine ⟨hdone listed a w hsz hc hJ hs, fun i hi => ?_⟩
    obtain ⟨h1, o, ho, hrdy⟩ := mem_ready.1 hi
    have hlt : i < ops.size := (Array.getElem?_eq_some_iff.1 ho).1
    obtain ⟨hb1, hb2, hb3⟩ := growB_spec hB ho
    have hdl : ∀ j, depB ops i j = true → j < ops.size → listed.getD j false = true := fun j hj hjs => by
      obtain ⟨e, he, hbd, hon⟩ := hb2 j hjs hj
      have hl := hrdy e he hbd
      rwa [hon] at hl
    refine wpOp_mono (fun a' w' hK => ?_) (hob i hlt listed a w hsz h1 hdl hc hJ (fun j hj => ?_))
    · obtain ⟨v, rfl, hv, hJ'⟩ := hK
      have hsz' : (listed.setIfInBounds i true).size = ops.size := by simpa using hsz
      refine ih _ _ _ hsz' ?_ ⟨Below.refl _ _, (put_defs _ _ _).trans hc.defers, (put_size _ _ _).trans hc.size, fun t ht => ?_⟩ hJ' ?_
      · have hlt2 : (List.range ops.size).countP (fun k => (listed.setIfInBounds i true).getD k true == false) < (List.range ops.size).countP (fun k => listed.getD k true == false) := by
          have hsub : ∀ k, ((listed.setIfInBounds i true).getD k true == false) = true → (listed.getD k true == false) = true := by
            intro k hk
            by_cases hik : i = k
            · subst hik
              simp [show i < listed.size by omega] at hk
            · rw [getD_set_ne true hik] at hk; exact hk
          have hnot : ((listed.setIfInBounds i true).getD i true == false) = false := by simp [show i < listed.size by omega]
          have hmem : i ∈ List.range ops.size := List.mem_range.2 hlt
          have h1' : (listed.getD i true == false) = true := by simpa using h1
          clear hcnt ih hdone hall hob hfin hs hc hJ hJ' hdl
          generalize List.range ops.size = L at hmem
          induction L with
          | nil => cases hmem
          | cons x L ihL =>
            rw [List.countP_cons, List.countP_cons]
            have hmono : L.countP (fun k => (listed.setIfInBounds i true).getD k true == false) ≤ L.countP (fun k => listed.getD k true == false) :=
              List.countP_mono_left (fun k _ hk => hsub k hk)
            rcases List.mem_cons.1 hmem with e | hm
            · subst e
              rw [if_neg (by rw [hnot]; decide), if_pos h1']
              omega
            · have h2 := ihL hm
              by_cases hx : ((listed.setIfInBounds i true).getD x true == false) = true
              · rw [if_pos hx, if_pos (hsub x hx)]; omega
              · rw [if_neg hx]; omega
        omega
      · rw [put_slot _ _ _ _ (fun e => ?_)]
        · exact hc.same t ht
        · have h2 := List.all_eq_true.1 ht i (List.mem_range.2 hlt)
          simp only [bne_iff_ne] at h2
          exact h2 e
      · intro j d hl hd
        by_cases hji : j = i
        · subst hji
          rw [hd, put_self _ _ _ (by rw [hc.size]; exact hfit _ _ hd)]
          exact hv
        · have hl' : listed.getD j false = true := by rwa [getD_set_ne false (fun e => hji e.symm)] at hl
          have hjs : j < ops.size := by
            rcases Nat.lt_or_ge j ops.size with h | h
            · exact h
            · rw [Array.getD_eq_getD_getElem?, Array.getElem?_eq_none (by omega)] at hl'; simp at hl'
          rw [put_slot _ _ _ _ (fun e => ?_)]
          · exact hs j d hl' hd
          · rcases hb3 j hjs hji with h | h
            · rw [h] at e; cases e
            · exact h (e.trans hd.symm)
    · have hjd : ∃ d, dstOf ops j = some d := by
        unfold depB at hj
        rw [ho] at hj
        cases hd : dstOf ops j with
        | none => rw [hd] at hj; cases hj
        | some d => exact ⟨d, rfl⟩
      obtain ⟨d, hd⟩ := hjd
      have hjs : j < ops.size := by
        unfold dstOf at hd
        cases hoj : ops[j]? with
        | none => rw [hoj] at hd; cases hd
        | some oj => exact (Array.getElem?_eq_some_iff.1 hoj).1
      have := hs j d (hdl j hj hjs) hd
      unfold slotOf
      rw [hd]
      exact this
/-- so many of the chain have come up -/
def chainJA (cs : List Nat) (I : Nat → Act → World → Prop) (listed : Array Bool) (a : Act) (w : World) : Prop :=
 ∃ m, m ≤ cs.length ∧ (∀ (k : Nat) (h : k < cs.length), listed.getD cs[k] false = true ↔ k < m) ∧ I m a w
theorem wp_region_chainA {id : Nat} {w : World} (hm : P.follows .mixedOrders = true) (vs : List (Option Value)) (cs : List Nat) (I : Nat → Act → World → Prop) (hcs : chainOk ops cs = true) (hB : growB ops = true) (hfit : slotFitB ops a0.tmps.size = true)
    (hI : ∀ m i a v w w', i < ops.size → cs.contains i = false → GrowCtx ops a0 w a w → I m a w → Below w.heap.size w w' → I m (a.put (dstOf ops i) v) w') (hI0 : I 0 a0 w.drew)
    (hread : ∀ i, i < ops.size → cs.contains i = false → ∀ (m : Nat) (a : Act) (w : World), GrowCtx ops a0 w a w → I m a w → (∀ j, depB ops i j = true → spOf (vs.map spO) j (slotOf ops a j) w) →
      wpOp P ops Q i (fun a' w' => ∃ v, a' = a.put (dstOf ops i) v ∧ spOf (vs.map spO) i v w' ∧ Below w.heap.size w w') a w)
    (hcall : ∀ (k : Nat) (hk : k < cs.length) (a : Act) (w : World), GrowCtx ops a0 w a w → I k a w → (∀ j, depB ops cs[k] j = true → spOf (vs.map spO) j (slotOf ops a j) w) →
      wpOp P ops Q cs[k] (fun a' w' => ∃ v, a' = a.put (dstOf ops cs[k]) v ∧ spOf (vs.map spO) cs[k] v w' ∧ I (k + 1) a' w') a w)
    (hfin : ∀ a w', GrowCtx ops a0 w' a w' → I cs.length a w' → (∀ j d, j < ops.size → dstOf ops j = some d → spOf (vs.map spO) j (a.tmps[d]?.getD undef) w') → Q .normal a w') :
    (Code.region id ops true).wp P Q a0 w := by
  have hsp : ∀ i v (w w' : World), spOf (vs.map spO) i v w → spOf (vs.map spO) i v w' := fun i v w w' h => by
    unfold spOf at *
    rw [List.getElem?_map] at *
    cases hv : vs[i]? with
    | none => trivial
    | some x => rw [hv] at h; cases x <;> exact h
  refine wp_region_any hm (wpAny_listedA (a0 := a0) (chainJA cs I) (fun i v => spOf (vs.map spO) i v w) hB (fit_of hfit) ?_ ?_ _ _ _ _ (by simp) ?_ ⟨Below.refl _ _, rfl, rfl, fun _ _ => rfl⟩ ?_ (fun j d hl _ => ?_))
  · intro i hi listed a w1 hsz hnl hdl hc hJ hd
    obtain ⟨m, hml, hmi, hI1⟩ := hJ
    have hself : (listed.setIfInBounds i true).getD i false = true := by simp [show i < listed.size by omega]
    by_cases hin : cs.contains i = true
    · obtain ⟨k, hk, rfl⟩ := List.getElem_of_mem (List.contains_iff_mem.1 hin)
      have hmk : m = k := by
        have h1 : ¬ k < m := fun h => by
          have := (hmi k hk).2 h
          rw [Array.getD_eq_getD_getElem?] at hnl this
          rw [Array.getElem?_eq_getElem (by omega)] at hnl this
          simp at hnl this
          rw [hnl] at this; cases this
        have h2 : ¬ m < k := fun h => by
          obtain ⟨k', rfl⟩ : ∃ k', k = k' + 1 := ⟨k - 1, by omega⟩
          have hdep := (chain_inc hcs k' hk).2
          have := (hmi k' (by omega)).1 (hdl _ hdep (chain_lt hcs _ (List.getElem_mem _)))
          omega
        omega
      subst hmk
      refine wpOp_mono (fun a' w' hK => ?_) (hcall m hk a w1 hc hI1 (fun j hj => hsp _ _ _ _ (hd j hj)))
      obtain ⟨v, e, hv, hI2⟩ := hK
      refine ⟨v, e, hsp _ _ _ _ hv, m + 1, by omega, fun k h => ?_, hI2⟩
      by_cases hkm : k = m
      · subst hkm
        exact ⟨fun _ => by omega, fun _ => hself⟩
      · have hne : cs[m] ≠ cs[k] := fun e => by
          rcases Nat.lt_or_gt_of_ne hkm with h3 | h3
          · have := chain_mono hcs m k hk h3; omega
          · have := chain_mono hcs k m h h3; omega
        rw [getD_set_ne false hne, hmi k h]
        omega
    · have hin : cs.contains i = false := by simpa using hin
      refine wpOp_mono (fun a' w' hK => ?_) (hread i hi hin m a w1 hc hI1 (fun j hj => hsp _ _ _ _ (hd j hj)))
      obtain ⟨v, e, hv, hb⟩ := hK
      refine ⟨v, e, hsp _ _ _ _ hv, m, hml, fun k h => ?_, by rw [e]; exact hI _ _ _ _ _ _ hi hin hc hI1 hb⟩
      have hne : i ≠ cs[k] := fun e => by
        have : cs.contains i = true := List.contains_iff_mem.2 (e ▸ List.getElem_mem h)
        rw [hin] at this; cases this
      rw [getD_set_ne false hne, hmi k h]
  · intro listed a w1 hsz hall hc hJ hv
    obtain ⟨m, hml, hmi, hI1⟩ := hJ
    have hm2 : m = cs.length := by
      rcases Nat.lt_or_ge m cs.length with h | h
      · have := (hmi m h).1 (hall _ (chain_lt hcs _ (List.getElem_mem _)))
        omega
      · omega
    subst hm2
    exact hfin a w1 hc hI1 (fun j d hj hd => hsp _ _ _ _ (hv j d hj hd))
  · exact Nat.le_trans (List.countP_le_length) (by simp)
  · refine ⟨0, Nat.zero_le _, fun k h => ⟨fun e => ?_, fun e => by omega⟩, hI0⟩
    rw [getD_replicate_false] at e
    cases e
  · rw [getD_replicate_false] at hl; cases hl
end
/-- what the last of the chain that has come up has yielded -/
def cv (ops : Array Oper) (a : Act) (cs : List Nat) : Nat → Value
 | 0 => undef
 | m + 1 => slotOf ops a (cs.getD m 0)
theorem slotOf_put {ops : Array Oper} {a : Act} {i j : Nat} {v : Value} (hne : dstOf ops i = none ∨ dstOf ops i ≠ dstOf ops j) : slotOf ops (a.put (dstOf ops i) v) j = slotOf ops a j := by
 unfold slotOf
 cases hd : dstOf ops j with
 | none => rfl
 | some d =>
  rcases hne with h | h
  ·rw [h]; rfl
  ·exact put_slot _ _ _ _ (fun e => h (e.trans hd.symm))
section
variable {P : Program} {ops : Array Oper} {Q : Exit → Act → World → Prop} {a0 : Act}
theorem wp_region_chainP {id : Nat} {w : World} (hm : P.follows .mixedOrders = true) (vs : List (Option Value)) (cs : List Nat) (S : Nat → Value → World → Prop) (hcs : chainOk ops cs = true) (hdst : (cs.all fun i => (dstOf ops i).isSome) = true) (hB : growB ops = true) (hfit : slotFitB ops a0.tmps.size = true)
    (hS : ∀ m x w w', S m x w → Below w.heap.size w w' → S m x w') (hS0 : S 0 undef w)
    (hread : ∀ i, i < ops.size → cs.contains i = false → ∀ (m : Nat) (a : Act) (w : World), GrowCtx ops a0 w a w → S m (cv ops a cs m) w → (∀ j, depB ops i j = true → spOf (vs.map spO) j (slotOf ops a j) w) →
      wpOp P ops Q i (fun a' w' => ∃ v, a' = a.put (dstOf ops i) v ∧ spOf (vs.map spO) i v w' ∧ Below w.heap.size w w') a w)
    (hcall : ∀ (k : Nat) (hk : k < cs.length) (a : Act) (w : World), GrowCtx ops a0 w a w → S k (cv ops a cs k) w → (∀ j, depB ops cs[k] j = true → spOf (vs.map spO) j (slotOf ops a j) w) →
      wpOp P ops Q cs[k] (fun a' w' => ∃ v, a' = a.put (dstOf ops cs[k]) v ∧ spOf (vs.map spO) cs[k] v w' ∧ S (k + 1) v w') a w)
    (hfin : ∀ a w', GrowCtx ops a0 w' a w' → S cs.length (cv ops a cs cs.length) w' → (∀ j d, j < ops.size → dstOf ops j = some d → spOf (vs.map spO) j (a.tmps[d]?.getD undef) w') → Q .normal a w') :
    (Code.region id ops true).wp P Q a0 w := by
  have hin : ∀ m, m < cs.length → cs.getD m 0 ∈ cs := fun m h => by rw [List.getD_eq_getElem?_getD, List.getElem?_eq_getElem h]; exact List.getElem_mem h
  refine wp_region_chainA hm vs cs (fun m a w => m ≤ cs.length ∧ S m (cv ops a cs m) w) hcs hB hfit ?_ ⟨Nat.zero_le _, hS _ _ _ _ hS0 (Below.refl _ _).drew⟩ (fun i hi hn m a w hc hI hd => hread i hi hn m a w hc hI.2 hd) (fun k hk a w hc hI hd => ?_) (fun a w' hc hI hs => hfin a w' hc hI.2 hs)
  · intro m i a v w w' hi hn hc hI hb
    refine ⟨hI.1, ?_⟩
    have e : cv ops (a.put (dstOf ops i) v) cs m = cv ops a cs m := by
      cases m with
      | zero => rfl
      | succ m =>
        have hmem := hin m hI.1
        have hlt := chain_lt hcs _ hmem
        have hne : cs.getD m 0 ≠ i := fun e => by
          rw [e] at hmem
          have := List.contains_iff_mem.2 hmem
          rw [hn] at this; cases this
        exact slotOf_put ((growB_spec hB (Array.getElem?_eq_getElem hi)).2.2 _ hlt hne)
    rw [e]
    exact hS _ _ _ _ hI.2 hb
  · refine wpOp_mono (fun a' w' hK => ?_) (hcall k hk a w hc hI.2 hd)
    obtain ⟨v, rfl, hv, hS1⟩ := hK
    refine ⟨v, rfl, hv, hk, ?_⟩
    have e : cs.getD k 0 = cs[k] := by rw [List.getD_eq_getElem?_getD, List.getElem?_eq_getElem hk]; rfl
    have hs := List.all_eq_true.1 hdst cs[k] (List.getElem_mem hk)
    obtain ⟨d, hd'⟩ := Option.isSome_iff_exists.1 hs
    have : cv ops (a.put (dstOf ops cs[k]) v) cs (k + 1) = v := by
      show slotOf ops _ (cs.getD k 0) = v
      rw [e]
      unfold slotOf
      rw [hd']
      exact put_self a d v (by rw [hc.size]; exact fit_of hfit _ _ hd')
    rw [this]
    exact hS1
end
end Go.Proofs.Ytnfpmobmfcgfnaa

/- AS Gr9, for regions whose tail writes a slot that their first operation reads ('b = f(b, ..)'): the slot's value goes into the chain. Over any program. -/
namespace Go.Proofs.Ytnfpmobmfcgfnaa
open Go.RowKit
def growW (ops : Array Oper) : Bool :=
 (List.range ops.size).all fun i =>
  match ops[i]? with
  | none => true
  | some o => (o.after.all fun e => decide (e.on < i)) &&
    (List.range ops.size).all fun j => (!(decide (j < i) && depB ops i j) || (o.after.any fun e => Region.binds .any e && e.on == j)) &&
     (j == i || dstOf ops i == none || dstOf ops i != dstOf ops j)
theorem growW_spec {ops : Array Oper} (h : growW ops = true) {i : Nat} {o : Oper} (hi : ops[i]? = some o) :
  (∀ e ∈ o.after, e.on < i) ∧ (∀ j, j < i → depB ops i j = true → ∃ e ∈ o.after, Region.binds .any e = true ∧ e.on = j) ∧
  (∀ j, j < ops.size → j ≠ i → dstOf ops i = none ∨ dstOf ops i ≠ dstOf ops j) := by
 have hlt : i < ops.size := (Array.getElem?_eq_some_iff.1 hi).1
 have h1 := List.all_eq_true.1 h i (List.mem_range.2 hlt)
 simp only [hi, Bool.and_eq_true] at h1
 obtain ⟨h2, h3⟩ := h1
 have h4 := List.all_eq_true.1 h3
 refine ⟨fun e he => ?_, fun j hj hd => ?_, fun j hj hne => ?_⟩
 ·have := (Array.all_eq_true_iff_forall_mem.1 h2) e he
  simpa using this
 ·have := h4 j (List.mem_range.2 (by omega))
  simp only [Bool.and_eq_true, Bool.or_eq_true, Bool.not_eq_true', Bool.and_eq_false_iff] at this
  rcases this.1 with h5 | h5
  ·rcases h5 with h5 | h5
   ·simp [hj] at h5
   ·rw [hd] at h5; cases h5
  ·obtain ⟨e, he, hb⟩ := Array.any_eq_true'.1 h5
   simp only [Bool.and_eq_true, beq_iff_eq] at hb
   exact ⟨e, he, hb.1, hb.2⟩
 ·have := h4 j (List.mem_range.2 hj)
  simp only [Bool.and_eq_true, Bool.or_eq_true, beq_iff_eq, bne_iff_ne] at this
  rcases this.2 with (h5 | h5) | h5
  ·exact absurd h5 hne
  ·exact .inl h5
  ·exact .inr h5
/-- what the last of the chain that has come up has yielded; ahead of it what lies in slot t0 -/
def cvT (ops : Array Oper) (a : Act) (t0 : Nat) (cs : List Nat) : Nat → Value
 | 0 => a.tmps[t0]?.getD undef
 | m + 1 => slotOf ops a (cs.getD m 0)
section
variable {P : Program} {ops : Array Oper} {Q : Exit → Act → World → Prop} {a0 : Act}
theorem wpAny_listedW (J : Array Bool → Act → World → Prop) (sp : Nat → Value → Prop) (hB : growW ops = true) (hfit : ∀ i d, dstOf ops i = some d → d < a0.tmps.size)
    (hob : ∀ i, i < ops.size → ∀ (listed : Array Bool) (a : Act) (w : World), listed.size = ops.size → listed.getD i true = false → (∀ j, j < i → depB ops i j = true → j < ops.size → listed.getD j false = true) → GrowCtx ops a0 w a w → J listed a w → (∀ j, j < i → depB ops i j = true → sp j (slotOf ops a j)) →
      wpOp P ops Q i (fun a' w' => ∃ v, a' = a.put (dstOf ops i) v ∧ sp i v ∧ J (listed.setIfInBounds i true) a' w') a w)
    (hfin : ∀ (listed : Array Bool) a w, listed.size = ops.size → (∀ j, j < ops.size → listed.getD j false = true) → GrowCtx ops a0 w a w → J listed a w → (∀ j d, j < ops.size → dstOf ops j = some d → sp j (a.tmps[d]?.getD undef)) → Q .normal a w) :
    ∀ (fuel : Nat) (listed : Array Bool) (a : Act) (w : World), listed.size = ops.size → (List.range ops.size).countP (fun i => listed.getD i true == false) ≤ fuel → GrowCtx ops a0 w a w → J listed a w →
      (∀ j d, listed.getD j false = true → dstOf ops j = some d → sp j (a.tmps[d]?.getD undef)) → wpAny P .any ops Q fuel listed a w := by
  have hall : ∀ listed : Array Bool, listed.size = ops.size → Region.ready .any ops listed = [] → ∀ j, j < ops.size → listed.getD j false = true := by
    intro listed hsz hr
    have key : ∀ n j, j ≤ n → j < ops.size → listed.getD j false = true := by
      intro n
      induction n with
      | zero =>
        intro j hj hjs
        obtain rfl : j = 0 := by omega
        cases hl : listed.getD 0 false with
        | true => rfl
        | false =>
          exfalso
          have hm : 0 ∈ Region.ready .any ops listed := by
            refine mem_ready.2 ⟨getD_in (by omega) hl, ops[0], Array.getElem?_eq_getElem hjs, fun e he _ => ?_⟩
            have := (growW_spec hB (Array.getElem?_eq_getElem hjs)).1 e he
            omega
          rw [hr] at hm; cases hm
      | succ n ih =>
        intro j hj hjs
        by_cases hjn : j ≤ n
        · exact ih j hjn hjs
        · cases hl : listed.getD j false with
          | true => rfl
          | false =>
            exfalso
            have hm : j ∈ Region.ready .any ops listed := by
              refine mem_ready.2 ⟨getD_in (by omega) hl, ops[j], Array.getElem?_eq_getElem hjs, fun e he _ => ?_⟩
              have := (growW_spec hB (Array.getElem?_eq_getElem hjs)).1 e he
              exact ih e.on (by omega) (by omega)
            rw [hr] at hm; cases hm
    exact fun j hj => key j j (Nat.le_refl _) hj
  have hdone : ∀ (listed : Array Bool) (a : Act) (w : World), listed.size = ops.size → GrowCtx ops a0 w a w → J listed a w →
      (∀ j d, listed.getD j false = true → dstOf ops j = some d → sp j (a.tmps[d]?.getD undef)) → Region.ready .any ops listed = [] → Q .normal a w :=
    fun listed a w hsz hc hJ hs hr => hfin listed a w hsz (hall listed hsz hr) hc hJ fun j d hj hd => hs j d (hall listed hsz hr j hj) hd
  intro fuel
  induction fuel with
  | zero =>
    intro listed a w hsz hcnt hc hJ hs
    have hr : Region.ready .any ops listed = [] := by
      apply List.eq_nil_iff_forall_not_mem.2
      intro i hi
      obtain ⟨h1, o, ho, _⟩ := mem_ready.1 hi
      have hlt : i < ops.size := (Array.getElem?_eq_some_iff.1 ho).1
      have : 0 < (List.range ops.size).countP (fun i => listed.getD i true == false) :=
        List.countP_pos_iff.2 ⟨i, List.mem_range.2 hlt, by simpa using h1⟩
      omega
    exact ⟨hr, hdone listed a w hsz hc hJ hs hr⟩
  | succ fuel ih =>
    intro listed a w hsz hcnt hc hJ hs
    refine ⟨hdone listed a w hsz hc hJ hs, fun i hi => ?_⟩
    obtain ⟨h1, o, ho, hrdy⟩ := mem_ready.1 hi
    have hlt : i < ops.size := (Array.getElem?_eq_some_iff.1 ho).1
    obtain ⟨hb1, hb2, hb3⟩ := growW_spec hB ho
    have hdl : ∀ j, j < i → depB ops i j = true → j < ops.size → listed.getD j false = true := fun j hji hj hjs => by
      obtain ⟨e, he, hbd, hon⟩ := hb2 j hji hj
      have hl := hrdy e he hbd
      rwa [hon] at hl
    refine wpOp_mono (fun a' w' hK => ?_) (hob i hlt listed a w hsz h1 hdl hc hJ (fun j hji hj => ?_))
    · obtain ⟨v, rfl, hv, hJ'⟩ := hK
      have hsz' : (listed.setIfInBounds i true).size = ops.size := by simpa using hsz
      refine ih _ _ _ hsz' ?_ ⟨Below.refl _ _, (put_defs _ _ _).trans hc.defers, (put_size _ _ _).trans hc.size, fun t ht => ?_⟩ hJ' ?_
      · have hlt2 : (List.range ops.size).countP (fun k => (listed.setIfInBounds i true).getD k true == false) < (List.range ops.size).countP (fun k => listed.getD k true == false) := by
          have hsub : ∀ k, ((listed.setIfInBounds i true).getD k true == false) = true → (listed.getD k true == false) = true := by
            intro k hk
            by_cases hik : i = k
            · subst hik
              simp [show i < listed.size by omega] at hk
            · rw [getD_set_ne true hik] at hk; exact hk
          have hnot : ((listed.setIfInBounds i true).getD i true == false) = false := by simp [show i < listed.size by omega]
          have hmem : i ∈ List.range ops.size := List.mem_range.2 hlt
          have h1' : (listed.getD i true == false) = true := by simpa using h1
          clear hcnt ih hdone hall hob hfin hs hc hJ hJ' hdl
          generalize List.range ops.size = L at hmem
          induction L with
          | nil => cases hmem
          | cons x L ihL =>
            rw [List.countP_cons, List.countP_cons]
            have hmono : L.countP (fun k => (listed.setIfInBounds i true).getD k true == false) ≤ L.countP (fun k => listed.getD k true == false) :=
              List.countP_mono_left (fun k _ hk => hsub k hk)
            rcases List.mem_cons.1 hmem with e | hm
            · subst e
              rw [if_neg (by rw [hnot]; decide), if_pos h1']
              omega
            · have h2 := ihL hm
              by_cases hx : ((listed.setIfInBounds i true).getD x true == false) = true
              · rw [if_pos hx, if_pos (hsub x hx)]; omega
              · rw [if_neg hx]; omega
        omega
      · rw [put_slot _ _ _ _ (fun e => ?_)]
        · exact hc.same t ht
        · have h2 := List.all_eq_true.1 ht i (List.mem_range.2 hlt)
          simp only [bne_iff_ne] at h2
          exact h2 e
      · intro j d hl hd
        by_cases hji : j = i
        · subst hji
          rw [hd, put_self _ _ _ (by rw [hc.size]; exact hfit _ _ hd)]
          exact hv
        · have hl' : listed.getD j false = true := by rwa [getD_set_ne false (fun e => hji e.symm)] at hl
          have hjs : j < ops.size := by
            rcases Nat.lt_or_ge j ops.size with h | h
            · exact h
            · rw [Array.getD_eq_getD_getElem?, Array.getElem?_eq_none (by omega)] at hl'; simp at hl'
          rw [put_slot _ _ _ _ (fun e => ?_)]
          · exact hs j d hl' hd
          · rcases hb3 j hjs hji with h | h
            · rw [h] at e; cases e
            · exact h (e.trans hd.symm)
    · have hjd : ∃ d, dstOf ops j = some d := by
        unfold depB at hj
        rw [ho] at hj
        cases hd : dstOf ops j with
        | none => rw [hd] at hj; cases hj
        | some d => exact ⟨d, rfl⟩
      obtain ⟨d, hd⟩ := hjd
      have hjs : j < ops.size := by
        unfold dstOf at hd
        cases hoj : ops[j]? with
        | none => rw [hoj] at hd; cases hd
        | some oj => exact (Array.getElem?_eq_some_iff.1 hoj).1
      have := hs j d (hdl j hji hj hjs) hd
      unfold slotOf
      rw [hd]
      exact this
theorem wp_region_chainAW {id : Nat} {w : World} (hm : P.follows .mixedOrders = true) (vs : List (Option Value)) (cs : List Nat) (I : Nat → Act → World → Prop) (hcs : chainOk ops cs = true) (hB : growW ops = true) (hfit : slotFitB ops a0.tmps.size = true)
    (hI : ∀ m i a v w w', i < ops.size → cs.contains i = false → GrowCtx ops a0 w a w → I m a w → Below w.heap.size w w' → I m (a.put (dstOf ops i) v) w') (hI0 : I 0 a0 w.drew)
    (hread : ∀ i, i < ops.size → cs.contains i = false → ∀ (m : Nat) (a : Act) (w : World), GrowCtx ops a0 w a w → I m a w → (∀ j, j < i → depB ops i j = true → spOf (vs.map spO) j (slotOf ops a j) w) →
      wpOp P ops Q i (fun a' w' => ∃ v, a' = a.put (dstOf ops i) v ∧ spOf (vs.map spO) i v w' ∧ Below w.heap.size w w') a w)
    (hcall : ∀ (k : Nat) (hk : k < cs.length) (a : Act) (w : World), GrowCtx ops a0 w a w → I k a w → (∀ j, j < cs[k] → depB ops cs[k] j = true → spOf (vs.map spO) j (slotOf ops a j) w) →
      wpOp P ops Q cs[k] (fun a' w' => ∃ v, a' = a.put (dstOf ops cs[k]) v ∧ spOf (vs.map spO) cs[k] v w' ∧ I (k + 1) a' w') a w)
    (hfin : ∀ a w', GrowCtx ops a0 w' a w' → I cs.length a w' → (∀ j d, j < ops.size → dstOf ops j = some d → spOf (vs.map spO) j (a.tmps[d]?.getD undef) w') → Q .normal a w') :
    (Code.region id ops true).wp P Q a0 w := by
  have hsp : ∀ i v (w w' : World), spOf (vs.map spO) i v w → spOf (vs.map spO) i v w' := fun i v w w' h => by
    unfold spOf at *
    rw [List.getElem?_map] at *
    cases hv : vs[i]? with
    | none => trivial
    | some x => rw [hv] at h; cases x <;> exact h
  refine wp_region_any hm (wpAny_listedW (a0 := a0) (chainJA cs I) (fun i v => spOf (vs.map spO) i v w) hB (fit_of hfit) ?_ ?_ _ _ _ _ (by simp) ?_ ⟨Below.refl _ _, rfl, rfl, fun _ _ => rfl⟩ ?_ (fun j d hl _ => ?_))
  · intro i hi listed a w1 hsz hnl hdl hc hJ hd
    obtain ⟨m, hml, hmi, hI1⟩ := hJ
    have hself : (listed.setIfInBounds i true).getD i false = true := by simp [show i < listed.size by omega]
    by_cases hin : cs.contains i = true
    · obtain ⟨k, hk, rfl⟩ := List.getElem_of_mem (List.contains_iff_mem.1 hin)
      have hmk : m = k := by
        have h1 : ¬ k < m := fun h => by
          have := (hmi k hk).2 h
          rw [Array.getD_eq_getD_getElem?] at hnl this
          rw [Array.getElem?_eq_getElem (by omega)] at hnl this
          simp at hnl this
          rw [hnl] at this; cases this
        have h2 : ¬ m < k := fun h => by
          obtain ⟨k', rfl⟩ : ∃ k', k = k' + 1 := ⟨k - 1, by omega⟩
          have hdep := (chain_inc hcs k' hk).2
          have := (hmi k' (by omega)).1 (hdl _ (chain_inc hcs k' hk).1 hdep (chain_lt hcs _ (List.getElem_mem _)))
          omega
        omega
      subst hmk
      refine wpOp_mono (fun a' w' hK => ?_) (hcall m hk a w1 hc hI1 (fun j hji hj => hsp _ _ _ _ (hd j hji hj)))
      obtain ⟨v, e, hv, hI2⟩ := hK
      refine ⟨v, e, hsp _ _ _ _ hv, m + 1, by omega, fun k h => ?_, hI2⟩
      by_cases hkm : k = m
      · subst hkm
        exact ⟨fun _ => by omega, fun _ => hself⟩
      · have hne : cs[m] ≠ cs[k] := fun e => by
          rcases Nat.lt_or_gt_of_ne hkm with h3 | h3
          · have := chain_mono hcs m k hk h3; omega
          · have := chain_mono hcs k m h h3; omega
        rw [getD_set_ne false hne, hmi k h]
        omega
    · have hin : cs.contains i = false := by simpa using hin
      refine wpOp_mono (fun a' w' hK => ?_) (hread i hi hin m a w1 hc hI1 (fun j hji hj => hsp _ _ _ _ (hd j hji hj)))
      obtain ⟨v, e, hv, hb⟩ := hK
      refine ⟨v, e, hsp _ _ _ _ hv, m, hml, fun k h => ?_, by rw [e]; exact hI _ _ _ _ _ _ hi hin hc hI1 hb⟩
      have hne : i ≠ cs[k] := fun e => by
        have : cs.contains i = true := List.contains_iff_mem.2 (e ▸ List.getElem_mem h)
        rw [hin] at this; cases this
      rw [getD_set_ne false hne, hmi k h]
  · intro listed a w1 hsz hall hc hJ hv
    obtain ⟨m, hml, hmi, hI1⟩ := hJ
    have hm2 : m = cs.length := by
      rcases Nat.lt_or_ge m cs.length with h | h
      · have := (hmi m h).1 (hall _ (chain_lt hcs _ (List.getElem_mem _)))
        omega
      · omega
    subst hm2
    exact hfin a w1 hc hI1 (fun j d hj hd => hsp _ _ _ _ (hv j d hj hd))
  · exact Nat.le_trans (List.countP_le_length) (by simp)
  · refine ⟨0, Nat.zero_le _, fun k h => ⟨fun e => ?_, fun e => by omega⟩, hI0⟩
    rw [getD_replicate_false] at e
    cases e
  · rw [getD_replicate_false] at hl; cases hl
theorem wp_region_chainT {id : Nat} {w : World} (hm : P.follows .mixedOrders = true) (vs : List (Option Value)) (cs : List Nat) (S : Nat → Value → World → Prop) (t0 : Nat) (h0 : ((List.range ops.size).all fun i => cs.contains i || dstOf ops i != some t0) = true) (hcs : chainOk ops cs = true) (hdst : (cs.all fun i => (dstOf ops i).isSome) = true) (hB : growW ops = true) (hfit : slotFitB ops a0.tmps.size = true)
    (hS : ∀ m x w w', S m x w → Below w.heap.size w w' → S m x w') (hS0 : S 0 (a0.tmps[t0]?.getD undef) w)
    (hread : ∀ i, i < ops.size → cs.contains i = false → ∀ (m : Nat) (a : Act) (w : World), GrowCtx ops a0 w a w → S m (cvT ops a t0 cs m) w → (∀ j, j < i → depB ops i j = true → spOf (vs.map spO) j (slotOf ops a j) w) →
      wpOp P ops Q i (fun a' w' => ∃ v, a' = a.put (dstOf ops i) v ∧ spOf (vs.map spO) i v w' ∧ Below w.heap.size w w') a w)
    (hcall : ∀ (k : Nat) (hk : k < cs.length) (a : Act) (w : World), GrowCtx ops a0 w a w → S k (cvT ops a t0 cs k) w → (∀ j, j < cs[k] → depB ops cs[k] j = true → spOf (vs.map spO) j (slotOf ops a j) w) →
      wpOp P ops Q cs[k] (fun a' w' => ∃ v, a' = a.put (dstOf ops cs[k]) v ∧ spOf (vs.map spO) cs[k] v w' ∧ S (k + 1) v w') a w)
    (hfin : ∀ a w', GrowCtx ops a0 w' a w' → S cs.length (cvT ops a t0 cs cs.length) w' → (∀ j d, j < ops.size → dstOf ops j = some d → spOf (vs.map spO) j (a.tmps[d]?.getD undef) w') → Q .normal a w') :
    (Code.region id ops true).wp P Q a0 w := by
  have hin : ∀ m, m < cs.length → cs.getD m 0 ∈ cs := fun m h => by rw [List.getD_eq_getElem?_getD, List.getElem?_eq_getElem h]; exact List.getElem_mem h
  refine wp_region_chainAW hm vs cs (fun m a w => m ≤ cs.length ∧ S m (cvT ops a t0 cs m) w) hcs hB hfit ?_ ⟨Nat.zero_le _, hS _ _ _ _ hS0 (Below.refl _ _).drew⟩ (fun i hi hn m a w hc hI hd => hread i hi hn m a w hc hI.2 hd) (fun k hk a w hc hI hd => ?_) (fun a w' hc hI hs => hfin a w' hc hI.2 hs)
  · intro m i a v w w' hi hn hc hI hb
    refine ⟨hI.1, ?_⟩
    have e : cvT ops (a.put (dstOf ops i) v) t0 cs m = cvT ops a t0 cs m := by
      cases m with
      | zero =>
        have h1 := List.all_eq_true.1 h0 i (List.mem_range.2 hi)
        rw [hn, Bool.false_or, bne_iff_ne] at h1
        exact put_slot _ _ _ _ h1
      | succ m =>
        have hmem := hin m hI.1
        have hlt := chain_lt hcs _ hmem
        have hne : cs.getD m 0 ≠ i := fun e => by
          rw [e] at hmem
          have := List.contains_iff_mem.2 hmem
          rw [hn] at this; cases this
        exact slotOf_put ((growW_spec hB (Array.getElem?_eq_getElem hi)).2.2 _ hlt hne)
    rw [e]
    exact hS _ _ _ _ hI.2 hb
  · refine wpOp_mono (fun a' w' hK => ?_) (hcall k hk a w hc hI.2 hd)
    obtain ⟨v, rfl, hv, hS1⟩ := hK
    refine ⟨v, rfl, hv, hk, ?_⟩
    have e : cs.getD k 0 = cs[k] := by rw [List.getD_eq_getElem?_getD, List.getElem?_eq_getElem hk]; rfl
    have hs := List.all_eq_true.1 hdst cs[k] (List.getElem_mem hk)
    obtain ⟨d, hd'⟩ := Option.isSome_iff_exists.1 hs
    have : cvT ops (a.put (dstOf ops cs[k]) v) t0 cs (k + 1) = v := by
      show slotOf ops _ (cs.getD k 0) = v
      rw [e]
      unfold slotOf
      rw [hd']
      exact put_self a d v (by rw [hc.size]; exact fit_of hfit _ _ hd')
    rw [this]
    exact hS1
end
end Go.Proofs.Ytnfpmobmfcgfnaa

