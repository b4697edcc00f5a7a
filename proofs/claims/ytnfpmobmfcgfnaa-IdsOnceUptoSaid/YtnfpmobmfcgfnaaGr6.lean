/- A DRAWN REGION: its head in whatever order; what stands behind it may come in several orders. -/
import Derived.Test.YtnfpmobmfcgfnaaGr4
namespace Go.Proofs.Ytnfpmobmfcgfnaa
open Go.RowKit
def headB (ops : Array Oper) (n : Nat) : Bool :=
  ((List.range n).all fun i => i + 1 == n || (List.range n).any fun j => decide (i < j) && Region.waitsFor .any ops j i) &&
  (List.range ops.size).all fun t => decide (t < n) || (List.range t).any fun j => decide (n ≤ j + 1) && Region.waitsFor .any ops t j
theorem head_waits {ops : Array Oper} {n : Nat} {listed : Array Bool} (hh : headB ops n = true) (hn : n < ops.size) (inv : HeadInv .any ops n listed) (hex : ∃ k, k < n ∧ listed.getD k true = false) :
    ∀ t, n ≤ t → t ∉ Region.ready .any ops listed := by
  unfold headB at hh
  rw [Bool.and_eq_true] at hh
  obtain ⟨hs, hc⟩ := hh
  have hup : ∀ d i, n - i ≤ d → i < n → listed.getD i true = false → listed.getD (n - 1) true = false := by
    intro d
    induction d with
    | zero => intro i h1 h2; omega
    | succ d ih =>
      intro i h1 h2 hun
      by_cases hl : i + 1 = n
      · rw [show n - 1 = i by omega]; exact hun
      · have h3 := List.all_eq_true.1 hs i (List.mem_range.2 h2)
        simp only [Bool.or_eq_true, beq_iff_eq] at h3
        obtain ⟨j, hj, h4⟩ := List.any_eq_true.1 (h3.resolve_left hl)
        simp only [Bool.and_eq_true, decide_eq_true_eq] at h4
        obtain ⟨oj, hoj, e, he, hb, hon⟩ := Region.waitsFor_spec h4.2
        have hjn := List.mem_range.1 hj
        cases hlj : listed.getD j false with
        | true =>
          have h5 := inv.closed j oj hoj hlj e he hb
          rw [hon, getD_both hun] at h5
          cases h5
        | false => exact ih j (by omega) hjn (getD_in (by rw [inv.size]; omega) hlj)
  obtain ⟨k, hk, hun⟩ := hex
  have hlast := hup _ k (Nat.le_refl _) hk hun
  intro t ht hr
  obtain ⟨_, ot, hot, hall⟩ := mem_ready.1 hr
  have htlt : t < ops.size := (Array.getElem?_eq_some_iff.1 hot).1
  have h3 := List.all_eq_true.1 hc t (List.mem_range.2 htlt)
  simp only [Bool.or_eq_true, decide_eq_true_eq] at h3
  obtain ⟨j, hj, h4⟩ := List.any_eq_true.1 (h3.resolve_left (by omega))
  simp only [Bool.and_eq_true, decide_eq_true_eq] at h4
  obtain ⟨o', ho', e, he, hb, hon⟩ := Region.waitsFor_spec h4.2
  have hoo : o' = ot := Option.some.inj (ho'.symm.trans hot)
  subst hoo
  have h5 := hall e he hb
  rw [hon] at h5
  have hjt := List.mem_range.1 hj
  by_cases hjn : j + 1 = n
  · rw [show j = n - 1 by omega, getD_both hlast] at h5; cases h5
  · rw [getD_both (inv.tail j (by omega) (by omega))] at h5; cases h5
section
variable {P : Program} {ops : Array Oper} {Q : Exit → Act → World → Prop} {a0 : Act} {w0 : World} {sp : Nat → Value → World → Prop} {n : Nat}
theorem wpAny_growN_head (hB : growN ops n = true) (hfit : ∀ i d, dstOf ops i = some d → d < a0.tmps.size) (hst : ∀ i v w w', sp i v w → Below w.heap.size w w' → sp i v w')
    (hh : headB ops n = true) (hn : n < ops.size)
    (hob : ∀ i, i < n → ObligN P ops n Q a0 w0 sp i)
    (m : Nat)
    (hfin : ∀ a w, GrowCtxN ops n a0 w0 a w → (∀ j d, j < n → dstOf ops j = some d → sp j (a.tmps[d]?.getD undef) w) → wpAny P .any ops Q m (canon ops n) a w) :
    ∀ (c : Nat) (listed : Array Bool) (a : Act) (w : World), HeadInv .any ops n listed → (List.range n).countP (fun i => listed.getD i true == false) = c → GrowCtxN ops n a0 w0 a w →
      (∀ j d, listed.getD j false = true → dstOf ops j = some d → sp j (a.tmps[d]?.getD undef) w) → wpAny P .any ops Q (c + m) listed a w := by
  intro c
  induction c with
  | zero =>
    intro listed a w inv hcnt hg hsp
    have hall : ∀ i, i < n → listed.getD i false = true := by
      intro i hi
      have h0 := List.countP_eq_zero.1 hcnt i (List.mem_range.2 hi)
      have hi' : i < listed.size := by rw [inv.size]; omega
      simp only [beq_iff_eq, Bool.not_eq_false] at h0
      rw [Array.getD_eq_getD_getElem?, Array.getElem?_eq_getElem hi'] at h0 ⊢
      simpa using h0
    have he := canon_of (n := n) inv.size (fun i hi _ => hall i hi) (fun i hi hi' => inv.tail i hi hi')
    rw [Nat.zero_add]
    rw [he]
    exact hfin a w hg fun j d hj hd => hsp j d (hall j hj) hd
  | succ c ih =>
    intro listed a w inv hcnt hg hsp
    have hex : ∃ i, i < n ∧ listed.getD i true = false := by
      obtain ⟨i, hi, h⟩ := List.countP_pos_iff.1 (by omega : 0 < (List.range n).countP (fun i => listed.getD i true == false))
      exact ⟨i, List.mem_range.1 hi, by simpa using h⟩
    rw [show c + 1 + m = (c + m) + 1 by omega]
    refine ⟨fun hr => ?_, fun i hi => ?_⟩
    · -- the least that has not come up may come up
      exfalso
      have key : ∀ d i, i ≤ d → i < n → listed.getD i true = false → ∃ k, k ∈ Region.ready .any ops listed := by
        intro d
        induction d using Nat.strongRecOn with
        | _ d ihd =>
          intro i hid hin hun
          have his : i < ops.size := by omega
          by_cases hall : ∀ e ∈ ops[i].after, Region.binds .any e = true → listed.getD e.on false = true
          · exact ⟨i, mem_ready.2 ⟨hun, ops[i], Array.getElem?_eq_getElem his, hall⟩⟩
          · obtain ⟨e, hall⟩ := Classical.not_forall.1 hall
            obtain ⟨he, hall⟩ := Classical.not_imp.1 hall
            obtain ⟨hb, hne⟩ := Classical.not_imp.1 hall
            have hlt := (growN_spec hB hin (Array.getElem?_eq_getElem his)).1 e he
            have hun2 : listed.getD e.on true = false := getD_in (by rw [inv.size]; omega) (by simpa using hne)
            exact ihd e.on (by omega) e.on (Nat.le_refl _) (by omega) hun2
      obtain ⟨i, hi, hun⟩ := hex
      obtain ⟨k, hk⟩ := key i i (Nat.le_refl _) hi hun
      rw [hr] at hk; cases hk
    · obtain ⟨h1, o, ho, hrdy⟩ := mem_ready.1 hi
      have hlt : i < ops.size := (Array.getElem?_eq_some_iff.1 ho).1
      have hin : i < n := by
        rcases Nat.lt_or_ge i n with h | h
        · exact h
        · obtain ⟨k, hk, hun⟩ := hex
          exact absurd hi (head_waits hh hn inv ⟨k, hk, hun⟩ i h)
      obtain ⟨hb1, hb2, hb3⟩ := growN_spec hB hin ho
      refine wpOp_mono (fun a' w' hK => ?_) (hob i hin a w hg (fun j hjn hj => ?_))
      · obtain ⟨v, rfl, hv, hgrow⟩ := hK
        refine ih _ _ _ (inv.set hi hin) ?_ ⟨hg.below.trans (hgrow.mono hg.below.size), (put_defs _ _ _).trans hg.defers, (put_size _ _ _).trans hg.size, fun t ht => ?_⟩ ?_
        · -- one less
          have hi' : i < listed.size := by rw [inv.size]; exact hlt
          have hsame : ∀ k, k ≠ i → ((listed.setIfInBounds i true).getD k true == false) = (listed.getD k true == false) := fun k hk => by rw [getD_set_ne true (fun e => hk e.symm)]
          have hnot : ((listed.setIfInBounds i true).getD i true == false) = false := by simp [hi']
          have h1' : (listed.getD i true == false) = true := by simpa using h1
          have hmem : i ∈ List.range n := List.mem_range.2 hin
          have hnd : (List.range n).Nodup := List.nodup_range
          clear ih hob hfin hsp hg hrdy
          have : ∀ L : List Nat, i ∈ L → L.Nodup → L.countP (fun k => (listed.setIfInBounds i true).getD k true == false) + 1 = L.countP (fun k => listed.getD k true == false) := by
            intro L
            induction L with
            | nil => intro h; cases h
            | cons x L ihL =>
              intro hm hd
              rw [List.countP_cons, List.countP_cons]
              rw [List.nodup_cons] at hd
              by_cases hx : x = i
              · subst hx
                have : L.countP (fun k => (listed.setIfInBounds x true).getD k true == false) = L.countP (fun k => listed.getD k true == false) := by
                  apply List.countP_congr
                  intro k hk
                  rw [hsame k (fun e => hd.1 (e ▸ hk))]
                rw [this, if_neg (by rw [hnot]; decide), if_pos h1']
              · have h2 := ihL ((List.mem_cons.1 hm).resolve_left (fun e => hx e.symm)) hd.2
                rw [hsame x hx]
                omega
          have := this _ hmem hnd
          omega
        · rw [put_slot _ _ _ _ (fun e => ?_)]
          · exact hg.same t ht
          · have h2 := List.all_eq_true.1 ht i (List.mem_range.2 hin)
            simp only [bne_iff_ne] at h2
            exact h2 e
        · intro j d hl hd
          by_cases hji : j = i
          · subst hji
            rw [hd, put_self _ _ _ (by rw [hg.size]; exact hfit _ _ hd)]
            exact hv
          · have hl' : listed.getD j false = true := by rwa [getD_set_ne false (fun e => hji e.symm)] at hl
            have hjs : j < n := by
              rcases Nat.lt_or_ge j n with h | h
              · exact h
              · rcases Nat.lt_or_ge j ops.size with h4 | h4
                · have h3 := inv.tail j h h4
                  rw [Array.getD_eq_getD_getElem?, Array.getElem?_eq_getElem (by rw [inv.size]; exact h4)] at hl' h3
                  simp only [Option.getD_some] at hl' h3
                  rw [hl'] at h3; cases h3
                · rw [Array.getD_eq_getD_getElem?, Array.getElem?_eq_none (by rw [inv.size]; omega)] at hl'; simp at hl'
            rw [put_slot _ _ _ _ (fun e => ?_)]
            · exact hst _ _ _ _ (hsp j d hl' hd) hgrow
            · rcases hb3 j hjs hji with h | h
              · rw [h] at e; cases e
              · exact h (e.trans hd.symm)
      · have hjd : ∃ d, dstOf ops j = some d := by
          unfold depB at hj
          rw [ho] at hj
          cases hd : dstOf ops j with
          | none => rw [hd] at hj; cases hj
          | some d => exact ⟨d, rfl⟩
        obtain ⟨d, hd⟩ := hjd
        have hjs : j < ops.size := by
          unfold dstOf at hd
          cases hoj : ops[j]? with
          | none => rw [hoj] at hd; cases hd
          | some oj => exact (Array.getElem?_eq_some_iff.1 hoj).1
        obtain ⟨e, he, hbd, hon⟩ := hb2 j hjn hj
        have hl := hrdy e he hbd
        rw [hon] at hl
        have := hsp j d hl hd
        unfold slotOf
        rw [hd]
        exact this
end
theorem wp_region_headN {P : Program} {ops : Array Oper} {Q : Exit → Act → World → Prop} {a0 : Act} {id : Nat} {w : World} (n m : Nat) (hm : P.follows .mixedOrders = true) (l : List Sp) (hB : growN ops n = true) (hfit : slotFitB ops a0.tmps.size = true)
    (hh : headB ops n = true) (hn : n < ops.size) (hsz : n + m = ops.size)
    (hob : ∀ i, i < n → ObligN P ops n Q a0 w.drew (spOf l) i)
    (hfin : ∀ a w', GrowCtxN ops n a0 w.drew a w' → (∀ j d, j < n → dstOf ops j = some d → spOf l j (a.tmps[d]?.getD undef) w') → wpAny P .any ops Q m (canon ops n) a w') :
    (Code.region id ops true).wp P Q a0 w := by
  refine wp_region_any hm ?_
  have hrep : ∀ i, i < ops.size → (Array.replicate ops.size false).getD i true = false := fun i hi => getD_in (by simpa using hi) (getD_replicate_false _ _)
  have inv0 : HeadInv .any ops n (Array.replicate ops.size false) :=
    ⟨by simp, fun j oj _ hl => (by rw [getD_replicate_false] at hl; cases hl), fun t _ ht => hrep t ht⟩
  have hcnt : (List.range n).countP (fun i => (Array.replicate ops.size false).getD i true == false) = n := by
    have : (List.range n).countP (fun i => (Array.replicate ops.size false).getD i true == false) = (List.range n).length := by
      apply List.countP_eq_length.2
      intro i hi
      rw [hrep i (by have := List.mem_range.1 hi; omega)]; rfl
    rw [this, List.length_range]
  have H := wpAny_growN_head (P := P) (Q := Q) (a0 := a0) (w0 := w.drew) (sp := spOf l) hB (fit_of hfit) (spOf_st l) hh hn hob m hfin n _ a0 w.drew inv0 hcnt ⟨Below.refl _ _, rfl, rfl, fun _ _ => rfl⟩ (fun j d hl _ => by rw [getD_replicate_false] at hl; cases hl)
  rw [hsz] at H
  exact H
/-- what is left comes in one order -/
theorem wpAny_seq {P : Program} {ops : Array Oper} {Q : Exit → Act → World → Prop} {a : Act} {w : World} {listed : Array Bool} (k m : Nat) (hk : (ops.toList.drop k).length = m) (hseq : Region.seqB .any ops m k listed = true) (h : wpList P ops Q (ops.toList.drop k) a w) : wpAny P .any ops Q m listed a w := by
  subst hk
  exact wpAny_of_seq (ops.toList.drop k) k listed a w (fun j => by rw [List.getElem?_drop, Array.getElem?_toList]) hseq h
end Go.Proofs.Ytnfpmobmfcgfnaa
