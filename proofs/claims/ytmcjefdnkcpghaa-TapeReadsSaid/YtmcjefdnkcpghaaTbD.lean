/- Regions that draw their order, as in Grow; here an edge that binds in one mode only may point behind. -/
import Derived.Test.YtmcjefdnkcpghaaGrow
import Derived.Test.YtmcjefdnkcpghaaTbC
import Derived.Lib.SlBytesConst
namespace Go.Proofs.Ytmcjefdnkcpghaa.Q
open Go.RowKit
def growB (ops : Array Oper) : Bool :=
  (List.range ops.size).all fun i =>
    match ops[i]? with
    | none => true
    | some o => (o.after.all fun e => !Region.binds .any e || decide (e.on < i)) &&
        (List.range ops.size).all fun j => (!depB ops i j || (o.after.any fun e => Region.binds .any e && e.on == j)) &&
          (j == i || dstOf ops i == none || dstOf ops i != dstOf ops j)
theorem growB_spec {ops : Array Oper} (h : growB ops = true) {i : Nat} {o : Oper} (hi : ops[i]? = some o) :
    (∀ e ∈ o.after, Region.binds .any e = true → e.on < i) ∧ (∀ j, j < ops.size → depB ops i j = true → ∃ e ∈ o.after, Region.binds .any e = true ∧ e.on = j) ∧
    (∀ j, j < ops.size → j ≠ i → dstOf ops i = none ∨ dstOf ops i ≠ dstOf ops j) := by
  have hlt : i < ops.size := (Array.getElem?_eq_some_iff.1 hi).1
  have h1 := List.all_eq_true.1 h i (List.mem_range.2 hlt)
  simp only [hi, Bool.and_eq_true] at h1
  obtain ⟨h2, h3⟩ := h1
  have h4 := List.all_eq_true.1 h3
  refine ⟨fun e he hbd => ?_, fun j hj hd => ?_, fun j hj hne => ?_⟩
  · have := (Array.all_eq_true_iff_forall_mem.1 h2) e he
    simpa [hbd] using this
  · have := h4 j (List.mem_range.2 hj)
    simp only [Bool.and_eq_true, Bool.or_eq_true, Bool.not_eq_true'] at this
    rcases this.1 with h5 | h5
    · rw [hd] at h5; cases h5
    · obtain ⟨e, he, hb⟩ := Array.any_eq_true'.1 h5
      simp only [Bool.and_eq_true, beq_iff_eq] at hb
      exact ⟨e, he, hb.1, hb.2⟩
  · have := h4 j (List.mem_range.2 hj)
    simp only [Bool.and_eq_true, Bool.or_eq_true, beq_iff_eq, bne_iff_ne] at this
    rcases this.2 with (h5 | h5) | h5
    · exact absurd h5 hne
    · exact .inl h5
    · exact .inr h5
section
variable {P : Program} {ops : Array Oper} {Q : Exit → Act → World → Prop} {a0 : Act} {w0 : World} {sp : Nat → Value → World → Prop}
theorem wpAny_grow (hB : growB ops = true) (hfit : ∀ i d, dstOf ops i = some d → d < a0.tmps.size) (hst : ∀ i v w w', sp i v w → Below w.heap.size w w' → sp i v w')
    (hob : ∀ i, i < ops.size → Oblig P ops Q a0 w0 sp i)
    (hfin : ∀ a w, GrowCtx ops a0 w0 a w → (∀ j d, j < ops.size → dstOf ops j = some d → sp j (a.tmps[d]?.getD undef) w) → Q .normal a w) :
    ∀ (fuel : Nat) (listed : Array Bool) (a : Act) (w : World), listed.size = ops.size → (List.range ops.size).countP (fun i => listed.getD i true == false) ≤ fuel → GrowCtx ops a0 w0 a w →
      (∀ j d, listed.getD j false = true → dstOf ops j = some d → sp j (a.tmps[d]?.getD undef) w) → wpAny P .any ops Q fuel listed a w := by
  -- if nothing may come up, all have come up
  have hall : ∀ listed : Array Bool, listed.size = ops.size → Region.ready .any ops listed = [] → ∀ j, j < ops.size → listed.getD j false = true := by
    intro listed hsz hr
    have key : ∀ n j, j ≤ n → j < ops.size → listed.getD j false = true := by
      intro n
      induction n with
      | zero =>
        intro j hj hjs
        obtain rfl : j = 0 := by omega
        cases hl : listed.getD 0 false with
        | true => rfl
        | false =>
          exfalso
          have hm : 0 ∈ Region.ready .any ops listed := by
            refine mem_ready.2 ⟨getD_in (by omega) hl, ops[0], Array.getElem?_eq_getElem hjs, fun e he hbd => ?_⟩
            have := (growB_spec hB (Array.getElem?_eq_getElem hjs)).1 e he hbd
            omega
          rw [hr] at hm; cases hm
      | succ n ih =>
        intro j hj hjs
        by_cases hjn : j ≤ n
        · exact ih j hjn hjs
        · cases hl : listed.getD j false with
          | true => rfl
          | false =>
            exfalso
            have hm : j ∈ Region.ready .any ops listed := by
              refine mem_ready.2 ⟨getD_in (by omega) hl, ops[j], Array.getElem?_eq_getElem hjs, fun e he hbd => ?_⟩
              have := (growB_spec hB (Array.getElem?_eq_getElem hjs)).1 e he hbd
              exact ih e.on (by omega) (by omega)
            rw [hr] at hm; cases hm
    exact fun j hj => key j j (Nat.le_refl _) hj
  have hdone : ∀ (listed : Array Bool) (a : Act) (w : World), listed.size = ops.size → GrowCtx ops a0 w0 a w →
      (∀ j d, listed.getD j false = true → dstOf ops j = some d → sp j (a.tmps[d]?.getD undef) w) → Region.ready .any ops listed = [] → Q .normal a w :=
    fun listed a w hsz hc hs hr => hfin a w hc fun j d hj hd => hs j d (hall listed hsz hr j hj) hd
  intro fuel
  induction fuel with
  | zero =>
    intro listed a w hsz hcnt hc hs
    have hr : Region.ready .any ops listed = [] := by
      apply List.eq_nil_iff_forall_not_mem.2
      intro i hi
      obtain ⟨h1, o, ho, _⟩ := mem_ready.1 hi
      have hlt : i < ops.size := (Array.getElem?_eq_some_iff.1 ho).1
      have : 0 < (List.range ops.size).countP (fun i => listed.getD i true == false) :=
        List.countP_pos_iff.2 ⟨i, List.mem_range.2 hlt, by simpa using h1⟩
      omega
    exact ⟨hr, hdone listed a w hsz hc hs hr⟩
  | succ fuel ih =>
    intro listed a w hsz hcnt hc hs
    refine ⟨hdone listed a w hsz hc hs, fun i hi => ?_⟩
    obtain ⟨h1, o, ho, hrdy⟩ := mem_ready.1 hi
    have hlt : i < ops.size := (Array.getElem?_eq_some_iff.1 ho).1
    obtain ⟨hb1, hb2, hb3⟩ := growB_spec hB ho
    refine wpOp_mono (fun a' w' hK => ?_) (hob i hlt a w hc (fun j hj => ?_))
    · obtain ⟨v, rfl, hv, hgrow⟩ := hK
      have hsz' : (listed.setIfInBounds i true).size = ops.size := by simpa using hsz
      refine ih _ _ _ hsz' ?_ ⟨hc.below.trans (hgrow.mono hc.below.size), (put_defs _ _ _).trans hc.defers, (put_size _ _ _).trans hc.size, fun t ht => ?_⟩ ?_
      · -- one less
        have hlt2 : (List.range ops.size).countP (fun k => (listed.setIfInBounds i true).getD k true == false) < (List.range ops.size).countP (fun k => listed.getD k true == false) := by
          have hsub : ∀ k, ((listed.setIfInBounds i true).getD k true == false) = true → (listed.getD k true == false) = true := by
            intro k hk
            by_cases hik : i = k
            · subst hik
              simp [show i < listed.size by omega] at hk
            · rw [getD_set_ne true hik] at hk; exact hk
          have hnot : ((listed.setIfInBounds i true).getD i true == false) = false := by simp [show i < listed.size by omega]
          have hmem : i ∈ List.range ops.size := List.mem_range.2 hlt
          have h1' : (listed.getD i true == false) = true := by simpa using h1
          clear hcnt ih hdone hall hob hfin hs hc
          generalize List.range ops.size = L at hmem
          induction L with
          | nil => cases hmem
          | cons x L ihL =>
            rw [List.countP_cons, List.countP_cons]
            have hmono : L.countP (fun k => (listed.setIfInBounds i true).getD k true == false) ≤ L.countP (fun k => listed.getD k true == false) :=
              List.countP_mono_left (fun k _ hk => hsub k hk)
            rcases List.mem_cons.1 hmem with e | hm
            · subst e
              rw [if_neg (by rw [hnot]; decide), if_pos h1']
              omega
            · have h2 := ihL hm
              by_cases hx : ((listed.setIfInBounds i true).getD x true == false) = true
              · rw [if_pos hx, if_pos (hsub x hx)]; omega
              · rw [if_neg hx]; omega
        omega
      · rw [put_slot _ _ _ _ (fun e => ?_)]
        · exact hc.same t ht
        · have h2 := List.all_eq_true.1 ht i (List.mem_range.2 hlt)
          simp only [bne_iff_ne] at h2
          exact h2 e
      · intro j d hl hd
        by_cases hji : j = i
        · subst hji
          rw [hd, put_self _ _ _ (by rw [hc.size]; exact hfit _ _ hd)]
          exact hv
        · have hl' : listed.getD j false = true := by rwa [getD_set_ne false (fun e => hji e.symm)] at hl
          have hjs : j < ops.size := by
            rcases Nat.lt_or_ge j ops.size with h | h
            · exact h
            · rw [Array.getD_eq_getD_getElem?, Array.getElem?_eq_none (by omega)] at hl'; simp at hl'
          rw [put_slot _ _ _ _ (fun e => ?_)]
          · exact hst _ _ _ _ (hs j d hl' hd) hgrow
          · rcases hb3 j hjs hji with h | h
            · rw [h] at e; cases e
            · exact h (e.trans hd.symm)
    · -- what it looks at has come up
      have hjd : ∃ d, dstOf ops j = some d := by
        unfold depB at hj
        rw [ho] at hj
        cases hd : dstOf ops j with
        | none => rw [hd] at hj; cases hj
        | some d => exact ⟨d, rfl⟩
      obtain ⟨d, hd⟩ := hjd
      have hjs : j < ops.size := by
        unfold dstOf at hd
        cases hoj : ops[j]? with
        | none => rw [hoj] at hd; cases hd
        | some oj => exact (Array.getElem?_eq_some_iff.1 hoj).1
      obtain ⟨e, he, hbd, hon⟩ := hb2 j hjs hj
      have hl := hrdy e he hbd
      rw [hon] at hl
      have := hs j d hl hd
      unfold slotOf
      rw [hd]
      exact this
theorem wp_region_grow {id : Nat} {w : World} (hm : P.follows .mixedOrders = true) (sp : Nat → Value → World → Prop) (hB : growB ops = true) (hfit : ∀ i d, dstOf ops i = some d → d < a0.tmps.size)
    (hst : ∀ i v w w', sp i v w → Below w.heap.size w w' → sp i v w')
    (hob : ∀ i, i < ops.size → Oblig P ops Q a0 w.drew sp i)
    (hfin : ∀ a w', GrowCtx ops a0 w.drew a w' → (∀ j d, j < ops.size → dstOf ops j = some d → sp j (a.tmps[d]?.getD undef) w') → Q .normal a w') :
    (Code.region id ops true).wp P Q a0 w := by
  refine wp_region_any hm (wpAny_grow (w0 := w.drew) hB hfit hst hob hfin _ _ _ _ (by simp) ?_ ⟨Below.refl _ _, rfl, rfl, fun _ _ => rfl⟩ (fun j d hl _ => ?_))
  · exact Nat.le_trans (List.countP_le_length) (by simp)
  · rw [getD_replicate_false] at hl; cases hl
end
theorem wp_region_sp {P : Program} {ops : Array Oper} {Q : Exit → Act → World → Prop} {a0 : Act} {id : Nat} {w : World} (hm : P.follows .mixedOrders = true) (l : List Sp) (hB : growB ops = true) (hfit : slotFitB ops a0.tmps.size = true)
    (hob : ∀ i, i < ops.size → Oblig P ops Q a0 w.drew (spOf l) i)
    (hfin : ∀ a w', GrowCtx ops a0 w.drew a w' → (∀ j d, j < ops.size → dstOf ops j = some d → spOf l j (a.tmps[d]?.getD undef) w') → Q .normal a w') :
    (Code.region id ops true).wp P Q a0 w := wp_region_grow hm (spOf l) hB (fit_of hfit) (spOf_st l) hob hfin
end Go.Proofs.Ytmcjefdnkcpghaa.Q
/- THE WALK OF octroilaw10.lives. -/
namespace Go.Proofs.Ytmcjefdnkcpghaa
open Go.RowKit
/-- what Join answers: bytes, and whether they are -/
def joinS (l : List UInt8) (b : Bool) : Sp := ⟨fun x w => ∃ v, x = .tuple #[v, .bool b] ∧ Byt w w.heap.size v l, fun x w w' h hb => by
  obtain ⟨v, h1, h2⟩ := h; exact ⟨v, h1, (h2.below hb).heap⟩⟩
def abL : List UInt8 := [97, 98]
theorem ab_len : abL.length = 2 := rfl
theorem ab_right : rightB ((3 : Nat) : Int) (abL.length : Int) = true := by decide
theorem ab_pages : pagesR 3 abL = (pagesL 3 abL, 0) := by
  unfold pagesR
  rw [show rightB 3 (abL.length : Int) = true from by decide, if_pos rfl]; rfl
theorem ab_cuts : cutsL abL = [fillL abL] := by
  rw [cutsL_cons (by decide), show abL.drop 64 = [] from rfl, cutsL_nil]; rfl
theorem ab_pagesL : pagesL 3 abL = [firstL 3 abL.length (sumL abL), fillL abL, lastL 3 (sumL abL)] := by
  unfold pagesL; rw [ab_cuts]; rfl
theorem ab_str : (bsA abL == (⟨#[97, 98]⟩ : ByteArray)) = true := by rfl
theorem add_zero (a : Addr) : a.add 0 = a := by simp [Addr.add]
theorem byt_frozen (w : World) (l : List UInt8) (hl : l.length ≤ maxLen) (m : Nat × Nat) : Byt (w.alloc (.cells (l.map bV).toArray 5 m)) (w.heap.size + 1) (.slice (some ⟨w.heap.size, 0, none⟩) l.length l.length) l := by
  refine ⟨_, _, rfl, Nat.le_refl _, hl, fun _ => ⟨_, rfl, by simp, fun j x hj => ?_⟩⟩
  rw [addr_mk_add, cell_of_row _ _ _ _ 5 m (heap_alloc_new w _)]
  simp [hj]
set_option maxRecDepth 100000 in
set_option maxHeartbeats 4000000 in
theorem lives10_any (w : World) : Calls Try.prog 49 #[] w fun e w' => e = .returned (.bool true) ∧ Below w.heap.size w w' := by
  have hown := byt_frozen w abL (by simp [abL, maxLen]) (2, 3)
  have hab : Below w.heap.size w (w.alloc (.cells (abL.map bV).toArray 5 (2, 3))) := (Below.refl _ _).alloc (Nat.le_refl _) _
  have hpg := pages_any 3 _ abL _ hown (by decide)
  unfold PagesPost at hpg
  rw [ab_pages] at hpg
  simp only at hpg
  have HAB := Lib.hid hab
  clear hown hab
  have kc := fun (w : World) (C : Array Value) (n c : Nat) => Lib.run_convert_bytes_const (P := Try.prog) w 23 5 C n c Try.underlying23 Try.underlying5
  go_enter Try.func49, Try.ntmps49
  go_wp2_with fail
  refine hpg.mono ?_
  rintro e w1 ⟨v1, rfl, ho1, hb1⟩
  have hb01 := HAB.out.trans (hb1.mono (by simp))
  have hby := ho1.byts
  rw [ab_pagesL] at hby
  have hSl := sumL_lt abL
  have hbeg := begin_first (s := sumL abL) ab_right hSl
  have hjoi := join_cuts (l := abL) ab_right
  rw [ab_cuts] at hjoi
  have hend := fun (W : World) (B : Nat) (v : Value) (h : Byt W B v (lastL 3 (sumL abL))) => end_any h 3 2 (sumL abL) hSl
  have hend' : endB (lastL 3 (sumL abL)) 3 (sumL abL) = true := end_last (by omega) (by omega)
  have hjo := fun (W : World) (v : Value) (h : Byts W W.heap.size v [fillL abL]) => join_any h 3 2 (sumL abL) hSl
  unfold JoinPost at hjo
  rw [ab_len] at hbeg hjoi
  change joinB _ 3 2 _ = true ∧ joinL _ 3 2 _ = _ at hjoi
  rw [hjoi.1, hjoi.2] at hjo
  rw [hend'] at hend
  unfold headV at hend hjo
  rw [ab_len] at hby
  generalize sumL abL = S at *
  obtain ⟨A, c, rfl, hc3, hm3⟩ := hby.form
  obtain ⟨ad, u0, rfl, hadb, hc0, hu0⟩ := hby.atv 0 (by simp)
  obtain ⟨ad', u1, e1, _, hc1, hu1⟩ := hby.atv 1 (by simp)
  cases e1
  obtain ⟨ad', u2, e2, _, hc2, hu2⟩ := hby.atv 2 (by simp)
  cases e2
  rw [add_zero] at hc0
  change Byt w1 _ u0 (firstL 3 2 S) at hu0
  change Byt w1 _ u1 (fillL abL) at hu1
  change Byt w1 _ u2 (lastL 3 S) at hu2
  change w1.cell? ⟨ad.block, ad.off + 1, none⟩ = _ at hc1
  change w1.cell? ⟨ad.block, ad.off + 2, none⟩ = _ at hc2
  have hbg := begin_any hu0
  unfold BeginPost at hbg
  rw [hbeg.1, hbeg.2] at hbg
  unfold headV at hbg
  simp only [List.length_cons, List.length_nil, Nat.zero_add, Nat.reduceAdd] at hc3 hby
  unfold maxLen at hm3
  have HEN := Lib.hid hend
  have HJO := Lib.hid hjo
  have HBY := Lib.hid hby
  have HC1 := Lib.hid hc1
  have HC2 := Lib.hid hc2
  have HC0 := Lib.hid hc0
  have HU2 := Lib.hid hu2
  have HB01 := Lib.hid hb01
  clear hbeg hjoi hend hend' hjo ho1 hu0 hu1 hu2 hb01 hb1 hpg hby hc1 hc2
  go_wp2_with ((with_reducible refine hbg.mono ?_); rintro e w2 ⟨rfl, hb2⟩)
  have hbx := fun (W : World) (hW : Below (w2.alloc (.cells #[.int .i64 3, .int .i64 2, .int .u32 (S : Int)] 77)).drew.heap.size (w2.alloc (.cells #[.int .i64 3, .int .i64 2, .int .u32 (S : Int)] 77)).drew W) => (show (W.cell? ⟨w2.heap.size, 0, none⟩ = some (.int .i64 3) ∧ W.cell? ⟨w2.heap.size, 1, none⟩ = some (.int .i64 2) ∧ W.cell? ⟨w2.heap.size, 2, none⟩ = some (.int .u32 (S : Int))) ∧ W.cell? ad = some u0 ∧ W.cell? ⟨ad.block, ad.off + 1, none⟩ = some u1 ∧ W.cell? ⟨ad.block, ad.off + 2, none⟩ = some u2 ∧ Byts W w1.heap.size (.slice (some ad) 3 c) [firstL 3 2 S, fillL abL, lastL 3 S] ∧ Byt W w1.heap.size u2 (lastL 3 S) ∧ Below w.heap.size w W from by
    have hb12 : Below w1.heap.size w1 (w2.alloc (.cells #[.int .i64 3, .int .i64 2, .int .u32 (S : Int)] 77)) := hb2.alloc hb2.size _
    have hW1 := hb12.drew.trans (hW.mono hb12.size)
    have h6 := (hW.block w2.heap.size (lt_of_block (heap_alloc_new w2 _))).trans (heap_alloc_new w2 _)
    exact ⟨⟨cells_of h6 0 _ rfl, cells_of h6 1 _ rfl, cells_of h6 2 _ rfl⟩, (hW1.cell hadb).trans HC0.out, (hW1.cell (p := ⟨ad.block, ad.off + 1, none⟩) hadb).trans HC1.out, (hW1.cell (p := ⟨ad.block, ad.off + 2, none⟩) hadb).trans HC2.out, HBY.out.below hW1, HU2.out.below hW1, HB01.out.trans (hW1.mono HB01.out.size)⟩)
  have HBX := Lib.hid hbx
  have HMID := Lib.hid (show ∀ W, Byts W w1.heap.size (.slice (some ad) 3 c) [firstL 3 2 S, fillL abL, lastL 3 S] → Byts W W.heap.size (.slice (some ⟨ad.block, ad.off + 1, none⟩) 1 (c - 1)) [fillL abL] from fun W h => Byts.mid (ls := [firstL 3 2 S, fillL abL, lastL 3 S]) 1 2 h.heap (by decide) (by show 2 ≤ 3; decide))
  have i1 : (2 : Int) ≤ (c : Int) := by omega
  have i2 : ¬ c = 1 := by omega
  clear hbx hb2
  -- region 5
  refine Q.wp_region_sp (by kernel_rfl) [isS (.slice (some ad) 3 c), isS (.slice (some ⟨ad.block, ad.off + 1, none⟩) 1 (c - 1)), isS (.agg #[.int .i64 3, .int .i64 2, .int .u32 (S : Int)]), joinS abL true, joinS abL true, bytS abL, isS (.bool true), bytS abL, isS (.bool true)] (by kernel_rfl) (by kernel_rfl) (fun i hi => ?_) (fun a w5 hc hs => ?_)
  · match i, hi with
    | 0, _ =>
      intro a W hc hd
      have z1 := hc.same 1 (by kernel_rfl)
      simp only [List.getElem?_toArray, List.getElem?_cons_succ, List.getElem?_cons_zero, Option.getD_some] at z1
      refine obl_val rfl (wanted_none rfl) ?_ rfl
      go_simp
    | 1, _ =>
      intro a W hc hd
      have s0 : a.tmps[28]?.getD undef = (.slice (some ad) 3 c) := hd 0 (by kernel_rfl)
      refine obl_val rfl (wanted_none rfl) ?_ rfl
      go_simp
    | 2, _ =>
      intro a W hc hd
      have z3 := hc.same 3 (by kernel_rfl)
      simp only [List.getElem?_toArray, List.getElem?_cons_succ, List.getElem?_cons_zero, Option.getD_some] at z3
      obtain ⟨⟨y0, y1, y2⟩, q0, q1, q2, hB, hU, qb⟩ := HBX.out W hc.below
      refine obl_val rfl (wanted_none rfl) ?_ rfl
      go_simp
    | 3, _ =>
      intro a W hc hd
      have s1 : a.tmps[29]?.getD undef = (.slice (some ⟨ad.block, ad.off + 1, none⟩) 1 (c - 1)) := hd 1 (by kernel_rfl)
      have s2 : a.tmps[30]?.getD undef = (.agg #[.int .i64 3, .int .i64 2, .int .u32 (S : Int)]) := hd 2 (by kernel_rfl)
      obtain ⟨⟨y0, y1, y2⟩, q0, q1, q2, hB, hU, qb⟩ := HBX.out W hc.below
      refine obl_call rfl (wanted_none rfl) (by go_simp) (HJO.out W _ (HMID.out W hB)) ?_
      rintro e w8 ⟨v8, rfl, hv8, hb8⟩
      exact ⟨_, rfl, ⟨v8, rfl, hv8⟩, hb8⟩
    | 4, _ =>
      intro a W hc hd
      have s3 : (joinS abL true).f (a.tmps[31]?.getD undef) W := hd 3 (by kernel_rfl)
      obtain ⟨v4, h4, hb4⟩ := s3
      refine obl_val rfl (wanted_none rfl) ?_ ⟨v4, rfl, hb4⟩
      go_simp
    | 5, _ =>
      intro a W hc hd
      have s4 : (joinS abL true).f (a.tmps[27]?.getD undef) W := hd 4 (by kernel_rfl)
      obtain ⟨v4, h4, hb4⟩ := s4
      refine obl_val rfl (wanted_none rfl) ?_ hb4
      go_simp
    | 6, _ =>
      intro a W hc hd
      have s4 : (joinS abL true).f (a.tmps[27]?.getD undef) W := hd 4 (by kernel_rfl)
      obtain ⟨v4, h4, hb4⟩ := s4
      refine obl_val rfl (wanted_none rfl) ?_ rfl
      go_simp
    | 7, _ =>
      intro a W hc hd
      have s5 : (bytS abL).f (a.tmps[32]?.getD undef) W := hd 5 (by kernel_rfl)
      refine obl_val rfl (wanted_none rfl) ?_ s5
      go_simp
    | 8, _ =>
      intro a W hc hd
      have s6 : a.tmps[33]?.getD undef = (.bool true) := hd 6 (by kernel_rfl)
      refine obl_val rfl (wanted_none rfl) ?_ rfl
      go_simp
    | n + 9, h => exact absurd h (by simp)
  · skip
    have hj5 : Byt w5 w5.heap.size (a.tmps[5]?.getD undef) abL := hs 7 5 (by decide) (by kernel_rfl)
    have hfr := grow_frame hc [(28, (.slice (some ad) 3 c)), (29, (.slice (some ⟨ad.block, ad.off + 1, none⟩) 1 (c - 1))), (30, (.agg #[.int .i64 3, .int .i64 2, .int .u32 (S : Int)])), (31, a.tmps[31]?.getD undef), (27, a.tmps[27]?.getD undef), (32, a.tmps[32]?.getD undef), (33, (.bool true)), (5, a.tmps[5]?.getD undef), (6, (.bool true))] (by kernel_rfl) (fun p hp => by
        simp only [List.mem_cons, List.not_mem_nil, or_false] at hp
        rcases hp with rfl | rfl | rfl | rfl | rfl | rfl | rfl | rfl | rfl
        · exact hs 0 28 (by decide) (by kernel_rfl)
        · exact hs 1 29 (by decide) (by kernel_rfl)
        · exact hs 2 30 (by decide) (by kernel_rfl)
        · rfl
        · rfl
        · rfl
        · exact hs 6 33 (by decide) (by kernel_rfl)
        · rfl
        · exact hs 8 6 (by decide) (by kernel_rfl)
        )
    generalize a.tmps[31]?.getD undef = z31 at hfr
    generalize a.tmps[27]?.getD undef = z27 at hfr
    generalize a.tmps[32]?.getD undef = z32 at hfr
    generalize a.tmps[5]?.getD undef = z5 at hfr hj5
    simp only [List.range, List.range.loop, List.size_toArray, List.length_cons, List.length_nil, List.map_cons, List.map_nil, List.lookup_cons, List.lookup_nil, Nat.reduceAdd, Nat.reduceBEq, Option.getD_some, Option.getD_none, List.getElem?_toArray, List.getElem?_cons_succ, List.getElem?_cons_zero] at hfr
    subst hfr
  -- end 5
    have HJ5 := Lib.hid hj5
    have HB5 := Lib.hid hc.below.drew
    clear hj5 hs hc
    generalize w2.heap.size = b3 at *
    go_wp2_with fail
    -- region 6
    refine Q.wp_region_sp (by kernel_rfl) [isS (.bool true), isS (.bool true), isS (.bool true), isS (.bool true), isS (.bool true), isS z5, isS (.string (bsA abL)), isS (.bool true), isS (.bool true), isS (.bool true), isS (.slice (some ad) 3 c), isS (.pointer (some ⟨ad.block, ad.off + 2, none⟩)), isS u2, isS (.agg #[.int .i64 3, .int .i64 2, .int .u32 (S : Int)]), isS (.bool true), isS (.bool true), isS (.bool true), isS (.pointer (some ⟨b3, 0, none⟩)), isS (.int .i64 3), isS (.bool true), isS (.bool true), isS (.bool true), isS (.int .i64 3), isS (.bool true), isS (.bool true), isS (.bool true), isS (.int .i64 4), isS (.bool true), isS (.bool true), isS (.bool true)] (by kernel_rfl) (by kernel_rfl) (fun i hi => ?_) (fun a w6 hc hs => ?_)
    · match i, hi with
      | 0, _ =>
        intro a W hc hd
        have z4 := hc.same 4 (by kernel_rfl)
        simp only [List.getElem?_toArray, List.getElem?_cons_succ, List.getElem?_cons_zero, Option.getD_some] at z4
        refine obl_val rfl (wanted_none rfl) ?_ rfl
        go_simp
      | 1, _ =>
        intro a W hc hd
        have s0 : a.tmps[34]?.getD undef = (.bool true) := hd 0 (by kernel_rfl)
        refine obl_val rfl (wanted_none rfl) ?_ rfl
        go_simp
      | 2, _ =>
        intro a W hc hd
        have z6 := hc.same 6 (by kernel_rfl)
        have s1 : a.tmps[35]?.getD undef = (.bool true) := hd 1 (by kernel_rfl)
        simp only [List.getElem?_toArray, List.getElem?_cons_succ, List.getElem?_cons_zero, Option.getD_some] at z6
        refine obl_val rfl (wanted_some rfl rfl s1) ?_ rfl
        go_simp
      | 3, _ =>
        intro a W hc hd
        have s1 : a.tmps[35]?.getD undef = (.bool true) := hd 1 (by kernel_rfl)
        have s2 : a.tmps[36]?.getD undef = (.bool true) := hd 2 (by kernel_rfl)
        refine obl_val rfl (wanted_none rfl) ?_ rfl
        go_simp
      | 4, _ =>
        intro a W hc hd
        have s3 : a.tmps[37]?.getD undef = (.bool true) := hd 3 (by kernel_rfl)
        refine obl_val rfl (wanted_none rfl) ?_ rfl
        go_simp
      | 5, _ =>
        intro a W hc hd
        have z5 := hc.same 5 (by kernel_rfl)
        have s4 : a.tmps[38]?.getD undef = (.bool true) := hd 4 (by kernel_rfl)
        simp only [List.getElem?_toArray, List.getElem?_cons_succ, List.getElem?_cons_zero, Option.getD_some] at z5
        refine obl_val rfl (wanted_some rfl rfl s4) ?_ rfl
        go_simp
      | 6, _ =>
        intro a W hc hd
        have s5 : a.tmps[39]?.getD undef = z5 := hd 5 (by kernel_rfl)
        have s4 : a.tmps[38]?.getD undef = (.bool true) := hd 4 (by kernel_rfl)
        have e := (HJ5.out.drew.below hc.below).strA
        refine obl_val rfl (wanted_some rfl rfl s4) ?_ rfl
        go_simp
      | 7, _ =>
        intro a W hc hd
        have s6 : a.tmps[40]?.getD undef = (.string (bsA abL)) := hd 6 (by kernel_rfl)
        have s4 : a.tmps[38]?.getD undef = (.bool true) := hd 4 (by kernel_rfl)
        refine obl_val rfl (wanted_some rfl rfl s4) (v := .bool (bsA abL == ⟨#[97, 98]⟩)) ?_ (by rw [ab_str]; rfl)
        exact exec_eqstr rfl (eval_tmp s6) rfl
      | 8, _ =>
        intro a W hc hd
        have s4 : a.tmps[38]?.getD undef = (.bool true) := hd 4 (by kernel_rfl)
        have s7 : a.tmps[41]?.getD undef = (.bool true) := hd 7 (by kernel_rfl)
        refine obl_val rfl (wanted_none rfl) ?_ rfl
        go_simp
      | 9, _ =>
        intro a W hc hd
        have s8 : a.tmps[42]?.getD undef = (.bool true) := hd 8 (by kernel_rfl)
        refine obl_val rfl (wanted_none rfl) ?_ rfl
        go_simp
      | 10, _ =>
        intro a W hc hd
        have z1 := hc.same 1 (by kernel_rfl)
        have s9 : a.tmps[43]?.getD undef = (.bool true) := hd 9 (by kernel_rfl)
        simp only [List.getElem?_toArray, List.getElem?_cons_succ, List.getElem?_cons_zero, Option.getD_some] at z1
        refine obl_val rfl (wanted_some rfl rfl s9) ?_ rfl
        go_simp
      | 11, _ =>
        intro a W hc hd
        have s10 : a.tmps[44]?.getD undef = (.slice (some ad) 3 c) := hd 10 (by kernel_rfl)
        have s9 : a.tmps[43]?.getD undef = (.bool true) := hd 9 (by kernel_rfl)
        refine obl_val rfl (wanted_some rfl rfl s9) ?_ rfl
        go_simp
      | 12, _ =>
        intro a W hc hd
        have s11 : a.tmps[45]?.getD undef = (.pointer (some ⟨ad.block, ad.off + 2, none⟩)) := hd 11 (by kernel_rfl)
        have s9 : a.tmps[43]?.getD undef = (.bool true) := hd 9 (by kernel_rfl)
        obtain ⟨⟨y0, y1, y2⟩, q0, q1, q2, hB, hU, qb⟩ := HBX.out W (HB5.out.trans (hc.below.mono HB5.out.size))
        refine obl_val rfl (wanted_some rfl rfl s9) ?_ rfl
        go_simp
      | 13, _ =>
        intro a W hc hd
        have z3 := hc.same 3 (by kernel_rfl)
        have s9 : a.tmps[43]?.getD undef = (.bool true) := hd 9 (by kernel_rfl)
        simp only [List.getElem?_toArray, List.getElem?_cons_succ, List.getElem?_cons_zero, Option.getD_some] at z3
        obtain ⟨⟨y0, y1, y2⟩, q0, q1, q2, hB, hU, qb⟩ := HBX.out W (HB5.out.trans (hc.below.mono HB5.out.size))
        refine obl_val rfl (wanted_some rfl rfl s9) ?_ rfl
        go_simp
      | 14, _ =>
        intro a W hc hd
        have s12 : a.tmps[46]?.getD undef = u2 := hd 12 (by kernel_rfl)
        have s13 : a.tmps[47]?.getD undef = (.agg #[.int .i64 3, .int .i64 2, .int .u32 (S : Int)]) := hd 13 (by kernel_rfl)
        have s9 : a.tmps[43]?.getD undef = (.bool true) := hd 9 (by kernel_rfl)
        obtain ⟨⟨y0, y1, y2⟩, q0, q1, q2, hB, hU, qb⟩ := HBX.out W (HB5.out.trans (hc.below.mono HB5.out.size))
        refine obl_call rfl (wanted_some rfl rfl s9) (by go_simp) (HEN.out W _ _ hU) ?_
        rintro e w8 ⟨rfl, hb8⟩
        exact ⟨_, rfl, rfl, hb8⟩
      | 15, _ =>
        intro a W hc hd
        have s9 : a.tmps[43]?.getD undef = (.bool true) := hd 9 (by kernel_rfl)
        have s14 : a.tmps[48]?.getD undef = (.bool true) := hd 14 (by kernel_rfl)
        refine obl_val rfl (wanted_none rfl) ?_ rfl
        go_simp
      | 16, _ =>
        intro a W hc hd
        have s15 : a.tmps[49]?.getD undef = (.bool true) := hd 15 (by kernel_rfl)
        refine obl_val rfl (wanted_none rfl) ?_ rfl
        go_simp
      | 17, _ =>
        intro a W hc hd
        have z3 := hc.same 3 (by kernel_rfl)
        have s16 : a.tmps[50]?.getD undef = (.bool true) := hd 16 (by kernel_rfl)
        simp only [List.getElem?_toArray, List.getElem?_cons_succ, List.getElem?_cons_zero, Option.getD_some] at z3
        refine obl_val rfl (wanted_some rfl rfl s16) ?_ rfl
        go_simp
      | 18, _ =>
        intro a W hc hd
        have s17 : a.tmps[51]?.getD undef = (.pointer (some ⟨b3, 0, none⟩)) := hd 17 (by kernel_rfl)
        have s16 : a.tmps[50]?.getD undef = (.bool true) := hd 16 (by kernel_rfl)
        obtain ⟨⟨y0, y1, y2⟩, q0, q1, q2, hB, hU, qb⟩ := HBX.out W (HB5.out.trans (hc.below.mono HB5.out.size))
        refine obl_val rfl (wanted_some rfl rfl s16) ?_ rfl
        go_simp
      | 19, _ =>
        intro a W hc hd
        have s18 : a.tmps[52]?.getD undef = (.int .i64 3) := hd 18 (by kernel_rfl)
        have s16 : a.tmps[50]?.getD undef = (.bool true) := hd 16 (by kernel_rfl)
        refine obl_val rfl (wanted_some rfl rfl s16) ?_ rfl
        go_simp
      | 20, _ =>
        intro a W hc hd
        have s16 : a.tmps[50]?.getD undef = (.bool true) := hd 16 (by kernel_rfl)
        have s19 : a.tmps[53]?.getD undef = (.bool true) := hd 19 (by kernel_rfl)
        refine obl_val rfl (wanted_none rfl) ?_ rfl
        go_simp
      | 21, _ =>
        intro a W hc hd
        have s20 : a.tmps[54]?.getD undef = (.bool true) := hd 20 (by kernel_rfl)
        refine obl_val rfl (wanted_none rfl) ?_ rfl
        go_simp
      | 22, _ =>
        intro a W hc hd
        have s21 : a.tmps[55]?.getD undef = (.bool true) := hd 21 (by kernel_rfl)
        refine obl_call rfl (wanted_some rfl rfl s21) (by go_simp) (need_any 1 W) ?_
        rintro e w8 ⟨rfl, rfl⟩
        exact ⟨_, rfl, by rw [show needI 1 = 3 from rfl]; rfl, Below.refl _ _⟩
      | 23, _ =>
        intro a W hc hd
        have s22 : a.tmps[56]?.getD undef = (.int .i64 3) := hd 22 (by kernel_rfl)
        have s21 : a.tmps[55]?.getD undef = (.bool true) := hd 21 (by kernel_rfl)
        refine obl_val rfl (wanted_some rfl rfl s21) ?_ rfl
        go_simp
      | 24, _ =>
        intro a W hc hd
        have s21 : a.tmps[55]?.getD undef = (.bool true) := hd 21 (by kernel_rfl)
        have s23 : a.tmps[57]?.getD undef = (.bool true) := hd 23 (by kernel_rfl)
        refine obl_val rfl (wanted_none rfl) ?_ rfl
        go_simp
      | 25, _ =>
        intro a W hc hd
        have s24 : a.tmps[58]?.getD undef = (.bool true) := hd 24 (by kernel_rfl)
        refine obl_val rfl (wanted_none rfl) ?_ rfl
        go_simp
      | 26, _ =>
        intro a W hc hd
        have s25 : a.tmps[59]?.getD undef = (.bool true) := hd 25 (by kernel_rfl)
        refine obl_call rfl (wanted_some rfl rfl s25) (by go_simp) (need_any 65 W) ?_
        rintro e w8 ⟨rfl, rfl⟩
        exact ⟨_, rfl, by rw [show needI 65 = 4 from rfl]; rfl, Below.refl _ _⟩
      | 27, _ =>
        intro a W hc hd
        have s26 : a.tmps[60]?.getD undef = (.int .i64 4) := hd 26 (by kernel_rfl)
        have s25 : a.tmps[59]?.getD undef = (.bool true) := hd 25 (by kernel_rfl)
        refine obl_val rfl (wanted_some rfl rfl s25) ?_ rfl
        go_simp
      | 28, _ =>
        intro a W hc hd
        have s25 : a.tmps[59]?.getD undef = (.bool true) := hd 25 (by kernel_rfl)
        have s27 : a.tmps[61]?.getD undef = (.bool true) := hd 27 (by kernel_rfl)
        refine obl_val rfl (wanted_none rfl) ?_ rfl
        go_simp
      | 29, _ =>
        intro a W hc hd
        have s28 : a.tmps[62]?.getD undef = (.bool true) := hd 28 (by kernel_rfl)
        refine obl_val rfl (wanted_none rfl) ?_ rfl
        go_simp
      | n + 30, h => exact absurd h (by simp)
    · have h29 : a.tmps[0]?.getD undef = .bool true := hs 29 0 (by decide) (by kernel_rfl)
      go_wp2_with fail
      refine bodyPost_ret (v := .bool true) (by simp [results, Try.results49, go_sem, h29]) hc.defers ?_
      exact ⟨rfl, (HBX.out w6 (HB5.out.trans (hc.below.mono HB5.out.size))).2.2.2.2.2.2⟩
    -- end 6
end Go.Proofs.Ytmcjefdnkcpghaa
