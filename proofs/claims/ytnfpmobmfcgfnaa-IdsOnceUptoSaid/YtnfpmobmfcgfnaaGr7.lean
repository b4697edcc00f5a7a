/- A DRAWN REGION: a head whose operations grow, in whatever order; a tail that waits for all of them but one (e), which yields in whatever world. -/
import Derived.Test.YtnfpmobmfcgfnaaGr6
namespace Go.Proofs.Ytnfpmobmfcgfnaa
open Go.RowKit
def growQ (ops : Array Oper) (n : Nat) : Bool :=
  (List.range n).all fun i =>
    match ops[i]? with
    | none => true
    | some o => (o.after.all fun e => !Region.binds .any e || decide (e.on < i)) &&
        (List.range n).all fun j => (!depB ops i j || (o.after.any fun e => Region.binds .any e && e.on == j)) &&
          (j == i || dstOf ops i == none || dstOf ops i != dstOf ops j)
theorem growQ_spec {ops : Array Oper} {n : Nat} (h : growQ ops n = true) {i : Nat} {o : Oper} (hin : i < n) (hi : ops[i]? = some o) :
    (∀ e ∈ o.after, Region.binds .any e = true → e.on < i) ∧ (∀ j, j < n → depB ops i j = true → ∃ e ∈ o.after, Region.binds .any e = true ∧ e.on = j) ∧
    (∀ j, j < n → j ≠ i → dstOf ops i = none ∨ dstOf ops i ≠ dstOf ops j) := by
  have h1 := List.all_eq_true.1 h i (List.mem_range.2 hin)
  simp only [hi, Bool.and_eq_true] at h1
  obtain ⟨h2, h3⟩ := h1
  have h4 := List.all_eq_true.1 h3
  refine ⟨fun e he hbd => ?_, fun j hj hd => ?_, fun j hj hne => ?_⟩
  · have := (Array.all_eq_true_iff_forall_mem.1 h2) e he
    rw [hbd] at this
    simpa using this
  · have := h4 j (List.mem_range.2 hj)
    simp only [Bool.and_eq_true, Bool.or_eq_true, Bool.not_eq_true'] at this
    rcases this.1 with h5 | h5
    · rw [hd] at h5; cases h5
    · obtain ⟨e, he, hb⟩ := Array.any_eq_true'.1 h5
      simp only [Bool.and_eq_true, beq_iff_eq] at hb
      exact ⟨e, he, hb.1, hb.2⟩
  · have := h4 j (List.mem_range.2 hj)
    simp only [Bool.and_eq_true, Bool.or_eq_true, beq_iff_eq, bne_iff_ne] at this
    rcases this.2 with (h5 | h5) | h5
    · exact absurd h5 hne
    · exact .inl h5
    · exact .inr h5
/-- the head is through, but for e -/
def eCanon (ops : Array Oper) (n e : Nat) : Array Bool := Array.ofFn fun i : Fin ops.size => decide (i.val < n) && decide (i.val ≠ e)
theorem eCanon_of {ops : Array Oper} {n e : Nat} {listed : Array Bool} (hsz : listed.size = ops.size) (h1 : ∀ i, i < n → i ≠ e → i < ops.size → listed.getD i true = true) (h2 : ∀ i, n ≤ i → i < ops.size → listed.getD i true = false) (he : listed.getD e true = false) : listed = eCanon ops n e := by
  apply Array.ext
  · simp [eCanon, hsz]
  · intro i h3 h4
    have hi : i < ops.size := by omega
    simp only [eCanon, Array.getElem_ofFn]
    by_cases hie : i = e
    · subst hie
      rw [Array.getD_eq_getD_getElem?, Array.getElem?_eq_getElem h3] at he
      simpa using he
    · by_cases h : i < n
      · have := h1 i h hie hi
        rw [Array.getD_eq_getD_getElem?, Array.getElem?_eq_getElem h3] at this
        simpa [h, hie] using this
      · have := h2 i (by omega) hi
        rw [Array.getD_eq_getD_getElem?, Array.getElem?_eq_getElem h3] at this
        simpa [h, hie] using this
/-- each of the tail waits for all of the head but e, or for one of the tail -/
def headE (ops : Array Oper) (n e : Nat) : Bool :=
  (List.range ops.size).all fun t => decide (t < n) || ((List.range n).all fun i => decide (i = e) || Region.waitsFor .any ops t i) || ((List.range t).any fun j => decide (n ≤ j) && Region.waitsFor .any ops t j)
theorem headE_waits {ops : Array Oper} {n e : Nat} {listed : Array Bool} (hh : headE ops n e = true) (inv : HeadInv .any ops n listed) (hex : ∃ k, k < n ∧ k ≠ e ∧ listed.getD k true = false) :
    ∀ t, n ≤ t → t ∉ Region.ready .any ops listed := by
  obtain ⟨k, hk, hke, hun⟩ := hex
  intro t ht hr
  obtain ⟨_, ot, hot, hall⟩ := mem_ready.1 hr
  have htlt : t < ops.size := (Array.getElem?_eq_some_iff.1 hot).1
  have h3 := List.all_eq_true.1 hh t (List.mem_range.2 htlt)
  rw [Bool.or_eq_true, Bool.or_eq_true, decide_eq_true_eq] at h3
  rcases h3 with (h3 | h3) | h3
  · omega
  · have h4 := List.all_eq_true.1 h3 k (List.mem_range.2 hk)
    rw [Bool.or_eq_true, decide_eq_true_eq] at h4
    obtain ⟨o', ho', x, hx, hb, hon⟩ := Region.waitsFor_spec (h4.resolve_left hke)
    have hoo : o' = ot := Option.some.inj (ho'.symm.trans hot)
    subst hoo
    have h5 := hall x hx hb
    rw [hon, getD_both hun] at h5; cases h5
  · obtain ⟨j, hj, h4⟩ := List.any_eq_true.1 h3
    simp only [Bool.and_eq_true, decide_eq_true_eq] at h4
    obtain ⟨o', ho', x, hx, hb, hon⟩ := Region.waitsFor_spec h4.2
    have hoo : o' = ot := Option.some.inj (ho'.symm.trans hot)
    subst hoo
    have h5 := hall x hx hb
    have hjt := List.mem_range.1 hj
    rw [hon, getD_both (inv.tail j h4.1 (by omega))] at h5; cases h5
section
variable {P : Program} {ops : Array Oper} {Q : Exit → Act → World → Prop} {a0 : Act} {w0 : World} {sp : Nat → Value → World → Prop} {n : Nat}
theorem wpAny_growQ_head (e : Nat) (hen : e < n) (ve : Value) (oe : Oper) (hoe : ops[e]? = some oe) (hB : growQ ops n = true) (hfit : ∀ i d, dstOf ops i = some d → d < a0.tmps.size) (hst : ∀ i v w w', sp i v w → Below w.heap.size w w' → sp i v w')
    (hh : headE ops n e = true) (hn : n < ops.size)
    (hsel : Region.noSelect ops = true) (hpan : ∀ c a w, Q (.panic c) (a.put oe.dst ve) w → Q (.panic c) a w) (hfree : Region.free .any ops (eCanon ops n e) e = true) (hrdye : (Region.ready .any ops (eCanon ops n e)).contains e = true)
    (hye : ∀ a w, (∀ j, j < n → depB ops e j = true → sp j (slotOf ops a j) w) → Yields P ops oe ve a) (hve : ∀ w, sp e ve w)
    (hob : ∀ i, i < n → ObligN P ops n Q a0 w0 sp i)
    (m : Nat)
    (hfin : ∀ a w, GrowCtxN ops n a0 w0 a w → (∀ j d, j < n → dstOf ops j = some d → sp j (a.tmps[d]?.getD undef) w) → wpAny P .any ops Q m (canon ops n) a w) :
    ∀ (c : Nat) (listed : Array Bool) (a : Act) (w : World), HeadInv .any ops n listed → (List.range n).countP (fun i => listed.getD i true == false) = c → GrowCtxN ops n a0 w0 a w →
      (∀ j d, listed.getD j false = true → dstOf ops j = some d → sp j (a.tmps[d]?.getD undef) w) → wpAny P .any ops Q (c + m) listed a w := by
  intro c
  induction c with
  | zero =>
    intro listed a w inv hcnt hg hsp
    have hall : ∀ i, i < n → listed.getD i false = true := by
      intro i hi
      have h0 := List.countP_eq_zero.1 hcnt i (List.mem_range.2 hi)
      have hi' : i < listed.size := by rw [inv.size]; omega
      simp only [beq_iff_eq, Bool.not_eq_false] at h0
      rw [Array.getD_eq_getD_getElem?, Array.getElem?_eq_getElem hi'] at h0 ⊢
      simpa using h0
    have he := canon_of (n := n) inv.size (fun i hi _ => hall i hi) (fun i hi hi' => inv.tail i hi hi')
    rw [Nat.zero_add, he]
    exact hfin a w hg fun j d hj hd => hsp j d (hall j hj) hd
  | succ c ih =>
    intro listed a w inv hcnt hg hsp
    have hex : ∃ i, i < n ∧ listed.getD i true = false := by
      obtain ⟨i, hi, h⟩ := List.countP_pos_iff.1 (by omega : 0 < (List.range n).countP (fun i => listed.getD i true == false))
      exact ⟨i, List.mem_range.1 hi, by simpa using h⟩
    have hstep : ∀ i o v w', i < n → i ∈ Region.ready .any ops listed → ops[i]? = some o → sp i v w' → Below w.heap.size w w' → wpAny P .any ops Q (c + m) (listed.setIfInBounds i true) (a.put (dstOf ops i) v) w' := by
      intro i o v w' hin hi ho hv hgrow
      obtain ⟨h1, _, _, hrdy⟩ := mem_ready.1 hi
      have hlt : i < ops.size := (Array.getElem?_eq_some_iff.1 ho).1
      obtain ⟨hb1, hb2, hb3⟩ := growQ_spec hB hin ho
      refine ih _ _ _ (inv.set hi hin) ?_ ⟨hg.below.trans (hgrow.mono hg.below.size), (put_defs _ _ _).trans hg.defers, (put_size _ _ _).trans hg.size, fun t ht => ?_⟩ ?_
      · -- one less
        have hi' : i < listed.size := by rw [inv.size]; exact hlt
        have hsame : ∀ k, k ≠ i → ((listed.setIfInBounds i true).getD k true == false) = (listed.getD k true == false) := fun k hk => by rw [getD_set_ne true (fun e => hk e.symm)]
        have hnot : ((listed.setIfInBounds i true).getD i true == false) = false := by simp [hi']
        have h1' : (listed.getD i true == false) = true := by simpa using h1
        have hmem : i ∈ List.range n := List.mem_range.2 hin
        have hnd : (List.range n).Nodup := List.nodup_range
        clear ih hob hfin hsp hg hrdy
        have : ∀ L : List Nat, i ∈ L → L.Nodup → L.countP (fun k => (listed.setIfInBounds i true).getD k true == false) + 1 = L.countP (fun k => listed.getD k true == false) := by
          intro L
          induction L with
          | nil => intro h; cases h
          | cons x L ihL =>
            intro hm hd
            rw [List.countP_cons, List.countP_cons]
            rw [List.nodup_cons] at hd
            by_cases hx : x = i
            · subst hx
              have : L.countP (fun k => (listed.setIfInBounds x true).getD k true == false) = L.countP (fun k => listed.getD k true == false) := by
                apply List.countP_congr
                intro k hk
                rw [hsame k (fun e => hd.1 (e ▸ hk))]
              rw [this, if_neg (by rw [hnot]; decide), if_pos h1']
            · have h2 := ihL ((List.mem_cons.1 hm).resolve_left (fun e => hx e.symm)) hd.2
              rw [hsame x hx]
              omega
        have := this _ hmem hnd
        omega
      · rw [put_slot _ _ _ _ (fun e => ?_)]
        · exact hg.same t ht
        · have h2 := List.all_eq_true.1 ht i (List.mem_range.2 hin)
          simp only [bne_iff_ne] at h2
          exact h2 e
      · intro j d hl hd
        by_cases hji : j = i
        · subst hji
          rw [hd, put_self _ _ _ (by rw [hg.size]; exact hfit _ _ hd)]
          exact hv
        · have hl' : listed.getD j false = true := by rwa [getD_set_ne false (fun e => hji e.symm)] at hl
          have hjs : j < n := by
            rcases Nat.lt_or_ge j n with h | h
            · exact h
            · rcases Nat.lt_or_ge j ops.size with h4 | h4
              · have h3 := inv.tail j h h4
                rw [Array.getD_eq_getD_getElem?, Array.getElem?_eq_getElem (by rw [inv.size]; exact h4)] at hl' h3
                simp only [Option.getD_some] at hl' h3
                rw [hl'] at h3; cases h3
              · rw [Array.getD_eq_getD_getElem?, Array.getElem?_eq_none (by rw [inv.size]; omega)] at hl'; simp at hl'
          rw [put_slot _ _ _ _ (fun e => ?_)]
          · exact hst _ _ _ _ (hsp j d hl' hd) hgrow
          · rcases hb3 j hjs hji with h | h
            · rw [h] at e; cases e
            · exact h (e.trans hd.symm)
    have hdeps : ∀ i o, i < n → i ∈ Region.ready .any ops listed → ops[i]? = some o → ∀ j, j < n → depB ops i j = true → sp j (slotOf ops a j) w := by
      intro i o hin hi ho j hjn hj
      obtain ⟨h1, o', ho', hrdy⟩ := mem_ready.1 hi
      have hoo : o' = o := Option.some.inj (ho'.symm.trans ho)
      subst hoo
      obtain ⟨hb1, hb2, hb3⟩ := growQ_spec hB hin ho
      have hjd : ∃ d, dstOf ops j = some d := by
        unfold depB at hj
        rw [ho] at hj
        cases hd : dstOf ops j with
        | none => rw [hd] at hj; cases hj
        | some d => exact ⟨d, rfl⟩
      obtain ⟨d, hd⟩ := hjd
      have hjs : j < ops.size := by
        unfold dstOf at hd
        cases hoj : ops[j]? with
        | none => rw [hoj] at hd; cases hd
        | some oj => exact (Array.getElem?_eq_some_iff.1 hoj).1
      obtain ⟨e, he, hbd, hon⟩ := hb2 j hjn hj
      have hl := hrdy e he hbd
      rw [hon] at hl
      have := hsp j d hl hd
      unfold slotOf
      rw [hd]
      exact this
    rw [show c + 1 + m = (c + m) + 1 by omega]
    by_cases hne : ∃ k, k < n ∧ k ≠ e ∧ listed.getD k true = false
    · refine ⟨fun hr => ?_, fun i hi => ?_⟩
      · -- the least that has not come up may come up
        exfalso
        have key : ∀ d i, i ≤ d → i < n → listed.getD i true = false → ∃ k, k ∈ Region.ready .any ops listed := by
          intro d
          induction d using Nat.strongRecOn with
          | _ d ihd =>
            intro i hid hin hun
            have his : i < ops.size := by omega
            by_cases hall : ∀ e ∈ ops[i].after, Region.binds .any e = true → listed.getD e.on false = true
            · exact ⟨i, mem_ready.2 ⟨hun, ops[i], Array.getElem?_eq_getElem his, hall⟩⟩
            · obtain ⟨e, hall⟩ := Classical.not_forall.1 hall
              obtain ⟨he, hall⟩ := Classical.not_imp.1 hall
              obtain ⟨hb, hne⟩ := Classical.not_imp.1 hall
              have hlt := (growQ_spec hB hin (Array.getElem?_eq_getElem his)).1 e he hb
              have hun2 : listed.getD e.on true = false := getD_in (by rw [inv.size]; omega) (by simpa using hne)
              exact ihd e.on (by omega) e.on (Nat.le_refl _) (by omega) hun2
        obtain ⟨i, hi, hun⟩ := hex
        obtain ⟨k, hk⟩ := key i i (Nat.le_refl _) hi hun
        rw [hr] at hk; cases hk
      · obtain ⟨h1, o, ho, hrdy⟩ := mem_ready.1 hi
        have hin : i < n := by
          rcases Nat.lt_or_ge i n with h | h
          · exact h
          · exact absurd hi (headE_waits hh inv hne i h)
        refine wpOp_mono (fun a' w' hK => ?_) (hob i hin a w hg (hdeps i o hin hi ho))
        obtain ⟨v, rfl, hv, hgrow⟩ := hK
        exact hstep i o v w' hin hi ho hv hgrow
    · have hune : listed.getD e true = false := by
        obtain ⟨i, hi, hun⟩ := hex
        rcases Classical.em (i = e) with h | h
        · exact h ▸ hun
        · exact absurd ⟨i, hi, h, hun⟩ hne
      have hle : listed = eCanon ops n e := eCanon_of inv.size (fun i hi hie _ => by
        cases hl : listed.getD i true with
        | true => rfl
        | false => exact absurd ⟨i, hi, hie, hl⟩ hne) (fun i h1 h2 => inv.tail i h1 h2) hune
      have hre : e ∈ Region.ready .any ops listed := by rw [hle]; simpa using hrdye
      refine wpAny_take hoe hsel (by rw [hle]; exact hfree) (by rw [hle]; exact hrdye) hpan (hye a w (hdeps e oe hen hre hoe)) ?_
      have := hstep e oe ve w hen hre hoe (hve w) (Below.refl _ _)
      unfold dstOf at this
      rw [hoe] at this
      exact this
end
theorem wp_region_headE {P : Program} {ops : Array Oper} {Q : Exit → Act → World → Prop} {a0 : Act} {id : Nat} {w : World} (n m e : Nat) (hen : e < n) (ve : Value) (oe : Oper) (hoe : ops[e]? = some oe) (hm : P.follows .mixedOrders = true) (l : List Sp) (hB : growQ ops n = true) (hfit : slotFitB ops a0.tmps.size = true)
    (hh : headE ops n e = true) (hn : n < ops.size) (hsz : n + m = ops.size)
    (hsel : Region.noSelect ops = true) (hpan : ∀ c a w, Q (.panic c) (a.put oe.dst ve) w → Q (.panic c) a w) (hfree : Region.free .any ops (eCanon ops n e) e = true) (hrdye : (Region.ready .any ops (eCanon ops n e)).contains e = true)
    (hye : ∀ a w, (∀ j, j < n → depB ops e j = true → spOf l j (slotOf ops a j) w) → Yields P ops oe ve a) (hve : ∀ w, spOf l e ve w)
    (hob : ∀ i, i < n → ObligN P ops n Q a0 w.drew (spOf l) i)
    (hfin : ∀ a w', GrowCtxN ops n a0 w.drew a w' → (∀ j d, j < n → dstOf ops j = some d → spOf l j (a.tmps[d]?.getD undef) w') → wpAny P .any ops Q m (canon ops n) a w') :
    (Code.region id ops true).wp P Q a0 w := by
  refine wp_region_any hm ?_
  have hrep : ∀ i, i < ops.size → (Array.replicate ops.size false).getD i true = false := fun i hi => getD_in (by simpa using hi) (getD_replicate_false _ _)
  have inv0 : HeadInv .any ops n (Array.replicate ops.size false) :=
    ⟨by simp, fun j oj _ hl => (by rw [getD_replicate_false] at hl; cases hl), fun t _ ht => hrep t ht⟩
  have hcnt : (List.range n).countP (fun i => (Array.replicate ops.size false).getD i true == false) = n := by
    have : (List.range n).countP (fun i => (Array.replicate ops.size false).getD i true == false) = (List.range n).length := by
      apply List.countP_eq_length.2
      intro i hi
      rw [hrep i (by have := List.mem_range.1 hi; omega)]; rfl
    rw [this, List.length_range]
  have H := wpAny_growQ_head (P := P) (Q := Q) (a0 := a0) (w0 := w.drew) (sp := spOf l) e hen ve oe hoe hB (fit_of hfit) (spOf_st l) hh hn hsel hpan hfree hrdye hye hve hob m hfin n _ a0 w.drew inv0 hcnt ⟨Below.refl _ _, rfl, rfl, fun _ _ => rfl⟩ (fun j d hl _ => by rw [getD_replicate_false] at hl; cases hl)
  rw [hsz] at H
  exact H
end Go.Proofs.Ytnfpmobmfcgfnaa
