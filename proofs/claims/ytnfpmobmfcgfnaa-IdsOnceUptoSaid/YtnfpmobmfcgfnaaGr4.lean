/- A DRAWN REGION WHOSE TAIL WRITES A SLOT THAT ITS HEAD READS; such regions in a round of a range over a function. -/
import Derived.Test.YtnfpmobmfcgfnaaGr3
import Derived.Test.YtnfpmobmfcgfnaaRnd
namespace Go.Proofs.Ytnfpmobmfcgfnaa
open Go.RowKit
/-- no operation of the head writes slot t -/
def freeN (ops : Array Oper) (n : Nat) (t : Nat) : Bool := (List.range n).all fun j => dstOf ops j != some t
def growN (ops : Array Oper) (n : Nat) : Bool :=
  (List.range n).all fun i =>
    match ops[i]? with
    | none => true
    | some o => (o.after.all fun e => decide (e.on < i)) &&
        (List.range n).all fun j => (!depB ops i j || (o.after.any fun e => Region.binds .any e && e.on == j)) &&
          (j == i || dstOf ops i == none || dstOf ops i != dstOf ops j)
structure GrowCtxN (ops : Array Oper) (n : Nat) (a0 : Act) (w0 : World) (a : Act) (w : World) : Prop where
  below : Below w0.heap.size w0 w
  defers : a.defers = a0.defers
  size : a.tmps.size = a0.tmps.size
  same : ∀ t, freeN ops n t = true → a.tmps[t]?.getD undef = a0.tmps[t]?.getD undef
def ObligN (P : Program) (ops : Array Oper) (n : Nat) (Q : Exit → Act → World → Prop) (a0 : Act) (w0 : World) (sp : Nat → Value → World → Prop) (i : Nat) : Prop :=
  ∀ (a : Act) (w : World), GrowCtxN ops n a0 w0 a w → (∀ j, j < n → depB ops i j = true → sp j (slotOf ops a j) w) →
    wpOp P ops Q i (fun a' w' => ∃ v, a' = a.put (dstOf ops i) v ∧ sp i v w' ∧ Below w.heap.size w w') a w
theorem growN_spec {ops : Array Oper} {n : Nat} (h : growN ops n = true) {i : Nat} {o : Oper} (hin : i < n) (hi : ops[i]? = some o) :
    (∀ e ∈ o.after, e.on < i) ∧ (∀ j, j < n → depB ops i j = true → ∃ e ∈ o.after, Region.binds .any e = true ∧ e.on = j) ∧
    (∀ j, j < n → j ≠ i → dstOf ops i = none ∨ dstOf ops i ≠ dstOf ops j) := by
  have h1 := List.all_eq_true.1 h i (List.mem_range.2 hin)
  simp only [hi, Bool.and_eq_true] at h1
  obtain ⟨h2, h3⟩ := h1
  have h4 := List.all_eq_true.1 h3
  refine ⟨fun e he => ?_, fun j hj hd => ?_, fun j hj hne => ?_⟩
  · have := (Array.all_eq_true_iff_forall_mem.1 h2) e he
    simpa using this
  · have := h4 j (List.mem_range.2 hj)
    simp only [Bool.and_eq_true, Bool.or_eq_true, Bool.not_eq_true'] at this
    rcases this.1 with h5 | h5
    · rw [hd] at h5; cases h5
    · obtain ⟨e, he, hb⟩ := Array.any_eq_true'.1 h5
      simp only [Bool.and_eq_true, beq_iff_eq] at hb
      exact ⟨e, he, hb.1, hb.2⟩
  · have := h4 j (List.mem_range.2 hj)
    simp only [Bool.and_eq_true, Bool.or_eq_true, beq_iff_eq, bne_iff_ne] at this
    rcases this.2 with (h5 | h5) | h5
    · exact absurd h5 hne
    · exact .inl h5
    · exact .inr h5
section
variable {P : Program} {ops : Array Oper} {Q : Exit → Act → World → Prop} {a0 : Act} {w0 : World} {sp : Nat → Value → World → Prop} {n : Nat}
theorem wpAny_growN_tail (hB : growN ops n = true) (hfit : ∀ i d, dstOf ops i = some d → d < a0.tmps.size) (hst : ∀ i v w w', sp i v w → Below w.heap.size w w' → sp i v w')
    (hs : Region.sinkB .any ops n = true) (hc : Region.chainB .any ops n = true) (hn : n < ops.size) (hseq : Region.seqB .any ops (ops.toList.drop n).length n (canon ops n) = true)
    (hob : ∀ i, i < n → ObligN P ops n Q a0 w0 sp i)
    (hfin : ∀ a w, GrowCtxN ops n a0 w0 a w → (∀ j d, j < n → dstOf ops j = some d → sp j (a.tmps[d]?.getD undef) w) → wpList P ops Q (ops.toList.drop n) a w) :
    ∀ (c : Nat) (listed : Array Bool) (a : Act) (w : World), HeadInv .any ops n listed → (List.range n).countP (fun i => listed.getD i true == false) = c → GrowCtxN ops n a0 w0 a w →
      (∀ j d, listed.getD j false = true → dstOf ops j = some d → sp j (a.tmps[d]?.getD undef) w) → wpAny P .any ops Q (c + (ops.toList.drop n).length) listed a w := by
  intro c
  induction c with
  | zero =>
    intro listed a w inv hcnt hg hsp
    have hall : ∀ i, i < n → listed.getD i false = true := by
      intro i hi
      have h0 := List.countP_eq_zero.1 hcnt i (List.mem_range.2 hi)
      have hi' : i < listed.size := by rw [inv.size]; omega
      simp only [beq_iff_eq, Bool.not_eq_false] at h0
      rw [Array.getD_eq_getD_getElem?, Array.getElem?_eq_getElem hi'] at h0 ⊢
      simpa using h0
    have he := canon_of (n := n) inv.size (fun i hi _ => hall i hi) (fun i hi hi' => inv.tail i hi hi')
    rw [Nat.zero_add]
    refine wpAny_of_seq (ops.toList.drop n) n listed a w (fun j => ?_) (by rw [he]; exact hseq) (hfin a w hg fun j d hj hd => hsp j d (hall j hj) hd)
    rw [List.getElem?_drop, Array.getElem?_toList]
  | succ c ih =>
    intro listed a w inv hcnt hg hsp
    have hex : ∃ i, i < n ∧ listed.getD i true = false := by
      obtain ⟨i, hi, h⟩ := List.countP_pos_iff.1 (by omega : 0 < (List.range n).countP (fun i => listed.getD i true == false))
      exact ⟨i, List.mem_range.1 hi, by simpa using h⟩
    rw [show c + 1 + (ops.toList.drop n).length = (c + (ops.toList.drop n).length) + 1 by omega]
    refine ⟨fun hr => ?_, fun i hi => ?_⟩
    · -- the least that has not come up may come up
      exfalso
      have key : ∀ d i, i ≤ d → i < n → listed.getD i true = false → ∃ k, k ∈ Region.ready .any ops listed := by
        intro d
        induction d using Nat.strongRecOn with
        | _ d ihd =>
          intro i hid hin hun
          have his : i < ops.size := by omega
          by_cases hall : ∀ e ∈ ops[i].after, Region.binds .any e = true → listed.getD e.on false = true
          · exact ⟨i, mem_ready.2 ⟨hun, ops[i], Array.getElem?_eq_getElem his, hall⟩⟩
          · obtain ⟨e, hall⟩ := Classical.not_forall.1 hall
            obtain ⟨he, hall⟩ := Classical.not_imp.1 hall
            obtain ⟨hb, hne⟩ := Classical.not_imp.1 hall
            have hlt := (growN_spec hB hin (Array.getElem?_eq_getElem his)).1 e he
            have hun2 : listed.getD e.on true = false := getD_in (by rw [inv.size]; omega) (by simpa using hne)
            exact ihd e.on (by omega) e.on (Nat.le_refl _) (by omega) hun2
      obtain ⟨i, hi, hun⟩ := hex
      obtain ⟨k, hk⟩ := key i i (Nat.le_refl _) hi hun
      rw [hr] at hk; cases hk
    · obtain ⟨h1, o, ho, hrdy⟩ := mem_ready.1 hi
      have hlt : i < ops.size := (Array.getElem?_eq_some_iff.1 ho).1
      have hin : i < n := by
        rcases Nat.lt_or_ge i n with h | h
        · exact h
        · obtain ⟨k, hk, hun⟩ := hex
          exact absurd hi (tail_waits hs hc hn inv _ k rfl hk hun i h)
      obtain ⟨hb1, hb2, hb3⟩ := growN_spec hB hin ho
      refine wpOp_mono (fun a' w' hK => ?_) (hob i hin a w hg (fun j hjn hj => ?_))
      · obtain ⟨v, rfl, hv, hgrow⟩ := hK
        refine ih _ _ _ (inv.set hi hin) ?_ ⟨hg.below.trans (hgrow.mono hg.below.size), (put_defs _ _ _).trans hg.defers, (put_size _ _ _).trans hg.size, fun t ht => ?_⟩ ?_
        · -- one less
          have hi' : i < listed.size := by rw [inv.size]; exact hlt
          have hsame : ∀ k, k ≠ i → ((listed.setIfInBounds i true).getD k true == false) = (listed.getD k true == false) := fun k hk => by rw [getD_set_ne true (fun e => hk e.symm)]
          have hnot : ((listed.setIfInBounds i true).getD i true == false) = false := by simp [hi']
          have h1' : (listed.getD i true == false) = true := by simpa using h1
          have hmem : i ∈ List.range n := List.mem_range.2 hin
          have hnd : (List.range n).Nodup := List.nodup_range
          clear ih hob hfin hsp hg hrdy
          have : ∀ L : List Nat, i ∈ L → L.Nodup → L.countP (fun k => (listed.setIfInBounds i true).getD k true == false) + 1 = L.countP (fun k => listed.getD k true == false) := by
            intro L
            induction L with
            | nil => intro h; cases h
            | cons x L ihL =>
              intro hm hd
              rw [List.countP_cons, List.countP_cons]
              rw [List.nodup_cons] at hd
              by_cases hx : x = i
              · subst hx
                have : L.countP (fun k => (listed.setIfInBounds x true).getD k true == false) = L.countP (fun k => listed.getD k true == false) := by
                  apply List.countP_congr
                  intro k hk
                  rw [hsame k (fun e => hd.1 (e ▸ hk))]
                rw [this, if_neg (by rw [hnot]; decide), if_pos h1']
              · have h2 := ihL ((List.mem_cons.1 hm).resolve_left (fun e => hx e.symm)) hd.2
                rw [hsame x hx]
                omega
          have := this _ hmem hnd
          omega
        · rw [put_slot _ _ _ _ (fun e => ?_)]
          · exact hg.same t ht
          · have h2 := List.all_eq_true.1 ht i (List.mem_range.2 hin)
            simp only [bne_iff_ne] at h2
            exact h2 e
        · intro j d hl hd
          by_cases hji : j = i
          · subst hji
            rw [hd, put_self _ _ _ (by rw [hg.size]; exact hfit _ _ hd)]
            exact hv
          · have hl' : listed.getD j false = true := by rwa [getD_set_ne false (fun e => hji e.symm)] at hl
            have hjs : j < n := by
              rcases Nat.lt_or_ge j n with h | h
              · exact h
              · rcases Nat.lt_or_ge j ops.size with h4 | h4
                · have h3 := inv.tail j h h4
                  rw [Array.getD_eq_getD_getElem?, Array.getElem?_eq_getElem (by rw [inv.size]; exact h4)] at hl' h3
                  simp only [Option.getD_some] at hl' h3
                  rw [hl'] at h3; cases h3
                · rw [Array.getD_eq_getD_getElem?, Array.getElem?_eq_none (by rw [inv.size]; omega)] at hl'; simp at hl'
            rw [put_slot _ _ _ _ (fun e => ?_)]
            · exact hst _ _ _ _ (hsp j d hl' hd) hgrow
            · rcases hb3 j hjs hji with h | h
              · rw [h] at e; cases e
              · exact h (e.trans hd.symm)
      · have hjd : ∃ d, dstOf ops j = some d := by
          unfold depB at hj
          rw [ho] at hj
          cases hd : dstOf ops j with
          | none => rw [hd] at hj; cases hj
          | some d => exact ⟨d, rfl⟩
        obtain ⟨d, hd⟩ := hjd
        have hjs : j < ops.size := by
          unfold dstOf at hd
          cases hoj : ops[j]? with
          | none => rw [hoj] at hd; cases hd
          | some oj => exact (Array.getElem?_eq_some_iff.1 hoj).1
        obtain ⟨e, he, hbd, hon⟩ := hb2 j hjn hj
        have hl := hrdy e he hbd
        rw [hon] at hl
        have := hsp j d hl hd
        unfold slotOf
        rw [hd]
        exact this
end
theorem wpAny_region_tailN {P : Program} {ops : Array Oper} {Q : Exit → Act → World → Prop} {a0 : Act} {w : World} (n : Nat) (l : List Sp) (hB : growN ops n = true) (hfit : slotFitB ops a0.tmps.size = true)
    (hs : Region.sinkB .any ops n = true) (hc : Region.chainB .any ops n = true) (hn : n < ops.size) (hseq : Region.seqB .any ops (ops.toList.drop n).length n (canon ops n) = true)
    (hob : ∀ i, i < n → ObligN P ops n Q a0 w.drew (spOf l) i)
    (hfin : ∀ a w', GrowCtxN ops n a0 w.drew a w' → (∀ j d, j < n → dstOf ops j = some d → spOf l j (a.tmps[d]?.getD undef) w') → wpList P ops Q (ops.toList.drop n) a w') :
    wpAny P .any ops Q ops.size (Array.replicate ops.size false) a0 w.drew := by
  have hrep : ∀ i, i < ops.size → (Array.replicate ops.size false).getD i true = false := fun i hi => getD_in (by simpa using hi) (getD_replicate_false _ _)
  have inv0 : HeadInv .any ops n (Array.replicate ops.size false) :=
    ⟨by simp, fun j oj _ hl => (by rw [getD_replicate_false] at hl; cases hl), fun t _ ht => hrep t ht⟩
  have hcnt : (List.range n).countP (fun i => (Array.replicate ops.size false).getD i true == false) = n := by
    have : (List.range n).countP (fun i => (Array.replicate ops.size false).getD i true == false) = (List.range n).length := by
      apply List.countP_eq_length.2
      intro i hi
      rw [hrep i (by have := List.mem_range.1 hi; omega)]; rfl
    rw [this, List.length_range]
  have H := wpAny_growN_tail (P := P) (Q := Q) (a0 := a0) (w0 := w.drew) (sp := spOf l) hB (fit_of hfit) (spOf_st l) hs hc hn hseq hob hfin n _ a0 w.drew inv0 hcnt ⟨Below.refl _ _, rfl, rfl, fun _ _ => rfl⟩ (fun j d hl _ => by rw [getD_replicate_false] at hl; cases hl)
  rw [show n + (ops.toList.drop n).length = ops.size by rw [List.length_drop, Array.length_toList]; omega] at H
  exact H
theorem wp_region_tailN {P : Program} {ops : Array Oper} {Q : Exit → Act → World → Prop} {a0 : Act} {id : Nat} {w : World} (n : Nat) (hm : P.follows .mixedOrders = true) (l : List Sp) (hB : growN ops n = true) (hfit : slotFitB ops a0.tmps.size = true)
    (hs : Region.sinkB .any ops n = true) (hc : Region.chainB .any ops n = true) (hn : n < ops.size) (hseq : Region.seqB .any ops (ops.toList.drop n).length n (canon ops n) = true)
    (hob : ∀ i, i < n → ObligN P ops n Q a0 w.drew (spOf l) i)
    (hfin : ∀ a w', GrowCtxN ops n a0 w.drew a w' → (∀ j d, j < n → dstOf ops j = some d → spOf l j (a.tmps[d]?.getD undef) w') → wpList P ops Q (ops.toList.drop n) a w') :
    (Code.region id ops true).wp P Q a0 w := wp_region_any hm (wpAny_region_tailN n l hB hfit hs hc hn hseq hob hfin)
/-- the same in a round of a range over a function -/
theorem wpIn_round_tailN {P : Program} {ops : Array Oper} {Q : Exit → Act → World → Prop} {a0 : Act} {id : Nat} {w : World} {r m : Nat} (n : Nat) (hm : P.follows .mixedOrders = true) (l : List Sp) (hB : growN ops n = true) (hfit : slotFitB ops a0.tmps.size = true)
    (hs : Region.sinkB .any ops n = true) (hc : Region.chainB .any ops n = true) (hn : n < ops.size) (hseq : Region.seqB .any ops (ops.toList.drop n).length n (canon ops n) = true)
    (hp : ops.toList.all plainOp = true) (hQ : ¬ LetsOut Q)
    (hob : ∀ i, i < n → ObligN P ops n Q a0 w.drew (spOf l) i)
    (hfin : ∀ a w', GrowCtxN ops n a0 w.drew a w' → (∀ j d, j < n → dstOf ops j = some d → spOf l j (a.tmps[d]?.getD undef) w') → wpList P ops Q (ops.toList.drop n) a w') :
    (Code.region id ops true).wpIn (Fence.wide.inRound r) m P Q a0 w :=
  wpIn_region_any hm (wpAny_round (fun i o ho => List.all_eq_true.1 hp o (List.mem_of_getElem? (by simpa using ho))) hQ _ _ _ _ (wpAny_region_tailN n l hB hfit hs hc hn hseq hob hfin))
/-- a region without a tail, in a round -/
theorem wpIn_round_sp {P : Program} {ops : Array Oper} {Q : Exit → Act → World → Prop} {a0 : Act} {id : Nat} {w : World} {r m : Nat} (hm : P.follows .mixedOrders = true) (l : List Sp) (hB : growB ops = true) (hfit : slotFitB ops a0.tmps.size = true)
    (hp : ops.toList.all plainOp = true) (hQ : ¬ LetsOut Q)
    (hob : ∀ i, i < ops.size → Oblig P ops Q a0 w.drew (spOf l) i)
    (hfin : ∀ a w', GrowCtx ops a0 w.drew a w' → (∀ j d, j < ops.size → dstOf ops j = some d → spOf l j (a.tmps[d]?.getD undef) w') → Q .normal a w') :
    (Code.region id ops true).wpIn (Fence.wide.inRound r) m P Q a0 w :=
  wpIn_region_any hm (wpAny_round (fun i o ho => List.all_eq_true.1 hp o (List.mem_of_getElem? (by simpa using ho))) hQ _ _ _ _
    (wpAny_grow (w0 := w.drew) hB (fit_of hfit) (spOf_st l) hob hfin _ _ _ _ (by simp) (Nat.le_trans (List.countP_le_length) (by simp)) ⟨Below.refl _ _, rfl, rfl, fun _ _ => rfl⟩ (fun j d hl _ => by rw [getD_replicate_false] at hl; cases hl)))
/-- is every slot free, or among these? -/
def covN (ops : Array Oper) (m : Nat) (n : Nat) (vals : List (Nat × Value)) : Bool := (List.range n).all fun t => freeN ops m t || (vals.lookup t).isSome
theorem grow_frameN {ops : Array Oper} {m : Nat} {a0 a : Act} {w0 w : World} (hc : GrowCtxN ops m a0 w0 a w) (vals : List (Nat × Value)) (hcov : covN ops m a0.tmps.size vals = true)
    (hv : ∀ p ∈ vals, a.tmps[p.1]?.getD undef = p.2) :
    a = ⟨((List.range a0.tmps.size).map fun t => (vals.lookup t).getD (a0.tmps[t]?.getD undef)).toArray, a0.defers⟩ := by
  obtain ⟨tmps, defers⟩ := a
  have h1 := hc.defers
  have h2 := hc.size
  simp only at h1 h2
  subst h1
  congr 1
  apply Array.ext
  · simp [h2]
  · intro i hi1 hi2
    simp only [List.getElem_toArray, List.getElem_map, List.getElem_range]
    have hi : i < a0.tmps.size := by rw [← h2]; exact hi1
    have hs := hc.same i
    simp only [Array.getElem?_eq_getElem hi1, Option.getD_some] at hs
    cases hl : vals.lookup i with
    | none =>
      have := List.all_eq_true.1 hcov i (List.mem_range.2 hi)
      rw [hl] at this
      simp only [Option.isSome_none, Bool.or_false] at this
      exact hs this
    | some v =>
      have hm : ∀ (l : List (Nat × Value)), l.lookup i = some v → (i, v) ∈ l := by
        intro l
        induction l with
        | nil => intro h; cases h
        | cons p t ih =>
          intro h
          rw [List.lookup_cons] at h
          split at h
          · rename_i he
            rw [beq_iff_eq] at he
            cases h
            subst he
            simp
          · exact List.mem_cons_of_mem _ (ih h)
      have := hv _ (hm vals hl)
      simp only [Array.getElem?_eq_getElem hi1, Option.getD_some] at this
      exact this
end Go.Proofs.Ytnfpmobmfcgfnaa
