/- THE SCANNER'S DIRTY SECTORS: a range over the disk's sectors. -/
import Derived.Test.YtmcjefdnkcpghaaZc1
import Derived.Test.YtmcjefdnkcpghaaZg
namespace Go.Proofs.Ytmcjefdnkcpghaa
open Go.RowKit Go.Shelf
attribute [local go_sem] Oper.semAt_some
def natK : Kd Nat := ⟨3, fun n => .int .i64 (n : Int), .int .i64 0, 8, fun _ => rfl, by kernel_rfl, rfl⟩
theorem Ow.from_ {α : Type} {K : Kd α} {A C : World} {row : Option Nat} {base : Nat} {v : Value} {l : List α} (h : Ow K A base v l) (hg : A.grownBy C row) (hr : ∀ r, row = some r → ∃ o : Obj, A.heap[r]? = some o ∧ o.isCells = false) : Ow K C base v l := by
  refine h.kept (S := fun b => row ≠ some b) ((Kept.refl _ A).grown hg (fun k hk _ hS => hS hk)) (fun g hgv e => ?_)
  obtain ⟨o, ho, hc⟩ := hr g e
  obtain ⟨cs, fr, hh⟩ := h.kind g hgv
  rw [hh] at ho
  cases ho; cases hc
/-- the boxes of dirty, between two rounds -/
def DgI (w : World) (tl : Nat) (L : List UInt8) (pre : List (Nat × Value)) (W : World) : Prop :=
  ∃ v, W.heap[w.heap.size]? = some (.cells #[.int .i64 (tl : Int)] 3 (0, 0)) ∧ W.heap[w.heap.size + 1]? = some (.cells #[v] 161 (0, 0)) ∧ Ow natK W (w.heap.size + 3) v (dirtyL L pre.length tl) ∧ Below w.heap.size w W
theorem DgI.from_ {w : World} {tl B : Nat} {L : List UInt8} (hB : w.heap.size ≤ B) : OwnFrom B (DgI w tl L) := by
  intro pre A C row hs hg hr
  obtain ⟨v, h1, h2, h3, h4⟩ := hs
  refine ⟨v, ?_, ?_, h3.from_ hg (fun r e => (hr r e).2), ?_⟩
  · exact ownFrom_block (β := Unit) (fun _ => #[.int .i64 (tl : Int)]) 3 () A C row h1 hg hr
  · exact ownFrom_block (β := Unit) (fun _ => #[v]) 161 () A C row h2 hg hr
  · exact ownFrom_below (n₀ := w.heap.size) (w₀ := w) (Nat.le_refl _) hB () A C row h4 hg hr
theorem DgI.kept {w A C : World} {tl : Nat} {L : List UInt8} {pre : List (Nat × Value)} (h : DgI w tl L pre A) (k : Kept (fun _ => True) A C) : DgI w tl L pre C := by
  obtain ⟨v, h1, h2, h3, h4⟩ := h
  exact ⟨v, k.heap h1 trivial, k.heap h2 trivial, h3.kept k (fun _ _ => trivial), h4.trans (k.toBelow (B := w.heap.size) h4.size (fun _ _ => trivial))⟩
theorem KeepsFrom.ofBelow {B : Nat} {W w' : World} (h : Below W.heap.size W w') : KeepsFrom B W w' := ⟨h.size, fun b _ _ hh _ => (h.block b (lt_of_block hh)).trans hh⟩
theorem DgI.step {w W w5 w' : World} {tl B : Nat} {L : List UInt8} {pre : List (Nat × Value)} {x : Nat × Value} {vo v' : Value} {l : List Nat}
    (h1 : W.heap[w.heap.size]? = some (.cells #[.int .i64 (tl : Int)] 3 (0, 0))) (h2 : W.heap[w.heap.size + 1]? = some (.cells #[vo] 161 (0, 0))) (h4 : Below w.heap.size w W) (hb5 : Below W.heap.size W w5) (h3 : Ow natK w5 (w.heap.size + 3) vo l)
    (ho : Ow natK w' (w.heap.size + 3) v' (dirtyL L (pre.length + 1) tl)) (hg : w5.grownBy w' vo.ownBlock) :
    KeepsFrom B W (w'.setCell ⟨w.heap.size + 1, 0, none⟩ v') ∧ Kept (fun b => b < w.heap.size ∨ b = w.heap.size + 1 + 1) W (w'.setCell ⟨w.heap.size + 1, 0, none⟩ v') ∧ DgI w tl L (pre ++ [x]) (w'.setCell ⟨w.heap.size + 1, 0, none⟩ v') := by
  have hrow := fun g (hg : vo.ownBlock = some g) => h3.kind g hg
  have hlt := fun g hg => h3.lt g hg
  have hn : ∀ b, b < w.heap.size + 3 → some b ≠ vo.ownBlock := fun b hb e => by have := (hlt b e.symm).1; omega
  have h15 := (hb5.block _ (lt_of_block h1)).trans h1
  have h25 := (hb5.block _ (lt_of_block h2)).trans h2
  have h1' := (hg.block _ (lt_of_block h15) (hn _ (by omega))).trans h15
  have h2' := (hg.block _ (lt_of_block h25) (hn _ (by omega))).trans h25
  have hoth : ∀ b, b ≠ w.heap.size + 1 → (w'.setCell ⟨w.heap.size + 1, 0, none⟩ v').heap[b]? = w'.heap[b]? := fun b hb => Below.heap_setCell _ _ _ _ (fun e => hb e)
  have hk5 : Kept (fun _ => True) W w5 := Kept.ofBelow hb5
  refine ⟨⟨Nat.le_trans hb5.size (Nat.le_trans hg.size (by simp [World.setCell])), fun b o hb hh hc => ?_⟩, ?_, v', ?_, ?_, ?_, ?_⟩
  · have n7 : b ≠ w.heap.size + 1 := fun e => by subst e; rw [h2] at hh; cases hh; cases hc
    have hh5 := (hb5.block b (lt_of_block hh)).trans hh
    have nr : some b ≠ vo.ownBlock := fun e => by
      obtain ⟨cs, fr, h⟩ := hrow b e.symm
      rw [h] at hh5; cases hh5; cases hc
    rw [hoth b n7]
    exact (hg.block b (lt_of_block hh5) nr).trans hh5
  · refine ((Kept.ofBelow (S := fun b => b < w.heap.size ∨ b = w.heap.size + 1 + 1) hb5).grown hg (fun k hk _ hS => ?_)).setCell _ _ (fun _ hS => ?_)
    · have := (hlt k hk).1
      rcases hS with hS | hS <;> omega
    · have hS' : w.heap.size + 1 < w.heap.size ∨ w.heap.size + 1 = w.heap.size + 1 + 1 := hS
      omega
  · rw [hoth _ (by omega)]; exact h1'
  · simpa using Lib.heap_setCell_same (i := 0) h2' v'
  · rw [List.length_append, List.length_singleton]
    refine ho.kept (S := fun b => b ≠ w.heap.size + 1) ((Kept.refl _ w').setCell _ _ (fun _ h => h rfl)) (fun g hg e => ?_)
    have := (ho.lt g hg).1
    omega
  · exact ((h4.trans (hb5.mono h4.size)).grown hg (Nat.le_trans h4.size hb5.size) (fun k hk => by have := (hlt k hk).1; omega)).setCell (by show w.heap.size ≤ w.heap.size + 1; omega) _
def DirtyPost (w : World) (l : List Nat) (e : Ending) (w' : World) : Prop := ∃ v, e = .returned v ∧ Ow natK w' w.heap.size v l ∧ Below w.heap.size w w'
set_option maxRecDepth 100000 in
set_option maxHeartbeats 4000000 in
theorem sdirty_any {w : World} {Z : Nat → Prop} {g : Nat} {d : Dv} (h : Dk w Z g d) (hhi : ∀ b, Z b → b < w.heap.size) (tl : Nat) :
    Calls Try.prog 110 #[.pointer (some ⟨g, 0, none⟩), .int .i64 (tl : Int)] w (DirtyPost w (dirtyL d.L d.n tl)) := by
  refine (callsIn_wide (n := 3)).1 ?_
  refine callsIn_of_wp_marks Try.func110 rfl trivial ?_ rfl
  simp only [Try.ntmps110, List.size_toArray, List.length_cons, List.length_nil, Nat.reduceAdd, Nat.reduceSub, Array.replicate_succ, Array.replicate_zero, List.push_toArray, List.append_toArray, List.nil_append, List.cons_append]
  refine wpIn_wide.2 ?_
  go_wp2_with (first
    | (go_at_call 40; refine (all_any g _).mono ?_; rintro e w4 ⟨rfl, rfl⟩))
  obtain ⟨W0, hW0⟩ : ∃ W0, W0 = ((w.alloc (.cells #[.int .i64 (tl : Int)] 3)).alloc (.cells #[.slice none 0 0] 161)).alloc (.cells #[.pointer (some ⟨g, 0, none⟩)] 41) := ⟨_, rfl⟩
  rw [← hW0]
  have hsz : W0.heap.size = w.heap.size + 3 := by rw [hW0]; simp
  have hb0 : Below w.heap.size w W0 := by rw [hW0]; exact (((Below.refl _ w).alloc (Nat.le_refl _) _).alloc (by simp) _).alloc (by simp <;> omega) _
  have hT0 : W0.heap[w.heap.size]? = some (.cells #[.int .i64 (tl : Int)] 3 (0, 0)) := by
    rw [hW0, Below.heap_alloc _ _ _ (by simp <;> omega), Below.heap_alloc _ _ _ (by simp)]
    exact heap_alloc_new w _
  have hR0 : W0.heap[w.heap.size + 1]? = some (.cells #[.slice none 0 0] 161 (0, 0)) := by
    rw [hW0, Below.heap_alloc _ _ _ (by simp)]
    have := heap_alloc_new (w.alloc (.cells #[.int .i64 (tl : Int)] 3)) (.cells #[.slice none 0 0] 161 (0, 0))
    simpa using this
  have hP0 : W0.heap[w.heap.size + 1 + 1]? = some (.cells #[.pointer (some ⟨g, 0, none⟩)] 41 (0, 0)) := by
    rw [hW0]
    have := heap_alloc_new ((w.alloc (.cells #[.int .i64 (tl : Int)] 3)).alloc (.cells #[.slice none 0 0] 161)) (.cells #[.pointer (some ⟨g, 0, none⟩)] 41 (0, 0))
    simpa using this
  have hI0 : DgI w tl d.L [] W0 := ⟨_, hT0, hR0, by rw [List.length_nil, dirtyL_low _ _ _ (Nat.zero_le _)]; exact Ow.nil_ _ _ _, hb0⟩
  have HI0 := Lib.hid hI0
  have hgw := h.lt
  have hd0 := h.below hb0
  clear hW0 hT0 hR0 hI0
  refine (wpIn_wide (n := 3)).1 ?_
  refine wpIn_range rfl (by omega) (gf := 92) (lb := #[.pointer (some ⟨w.heap.size + 1 + 1, 0, none⟩)]) rfl trivial (enters_of Try.func92 (by kernel_rfl) rfl)
    (all1_seq hd0 (3 - 1) (by omega) (T := fun b => b < w.heap.size ∨ b = w.heap.size + 1 + 1) (by simp [World.cell?, hP0]) (.inr rfl) (fun b hb => .inl (hhi b hb)))
    (fun _ _ => trivial) (by rintro b (hb | rfl) <;> omega) (Below.refl _ _) (fun _ => rfl)
    (DgI w tl d.L) (fun _ _ _ => False) (DgI.from_ (by omega)) (fun _ _ _ _ _ h _ _ => h) (fun _ A C h hk => h.kept hk) (fun _ _ _ _ h _ => h) (fun pre x => argA_own d _ pre x) HI0.out ?a1 ?assign ?body ?done ?stop
  case assign =>
    intro l x W K hK
    have HK := Lib.hid hK
    clear hK
    simp only [encA]
    gi_wp2
    exact HK.out
  case stop =>
    rintro D cc pre W _ _ h _
    exact h.elim
  case body =>
    rintro l pre ⟨i, v⟩ W hl hrec ⟨vo, h1, h2, h3, h4⟩ ⟨hx1, hx2, hx3⟩
    simp only at hx1 hx2 hx3
    subst hx1
    have hW3 : w.heap.size + 3 < W.heap.size := by
      obtain ⟨r, hr⟩ := hrec
      have := (Array.getElem?_eq_some_iff.1 hr).1
      omega
    have cT := cells_of h1 0 _ rfl
    have cR := cells_of h2 0 _ rfl
    have fR := free_of h2 0
    have hdt := dirtyL_take d.L tl pre.length
    have hln := dirtyL_len d.L tl pre.length
    have hn2 := h.ok.n2
    have hbl := blank_any hx3
    have H1 := Lib.hid h1
    have H2 := Lib.hid h2
    have H3 := Lib.hid h3
    have H4 := Lib.hid h4
    have HDT := Lib.hid hdt
    clear hdt h1 h2 h3 h4 h hd0 hP0
    generalize page d.L pre.length = pg at *
    refine wpIn_block ?_
    refine wpIn_seq ?_
    refine wpIn_round_list ?hq4 (by kernel_rfl) ?_
    case hq4 =>
      rintro ⟨_, _, h⟩
      exact h
    by_cases ht : tl ≤ pre.length
    · have e1 : decide (tl ≤ pre.length) = true := decide_eq_true ht
      rw [e1, Bool.true_and] at HDT
      generalize blankB pg = bl at *
      go_wp2_with fail
      refine hbl.mono ?_
      rintro e w5 ⟨rfl, hb5⟩
      have h25 := (hb5.block _ (lt_of_block H2.out)).trans H2.out
      have cR5 := cells_of h25 0 _ rfl
      have fR5 := free_of h25 0
      have H35 := Lib.hid (H3.out.kept (Kept.ofBelow (S := fun _ => True) hb5) (fun _ _ => trivial))
      have HB5 := Lib.hid hb5
      have hw5 := Nat.le_trans H4.out.size hb5.size
      have hsW := lt_of_block H2.out
      clear h25 cT cR fR hbl
      cases bl with
      | true =>
        rw [show (!true) = false from rfl, if_neg (by decide), List.append_nil] at HDT
        go_wp2_with fail
        refine wpIn_cond_false rfl ?_
        refine wpIn_skip ?_
        refine ⟨KeepsFrom.ofBelow HB5.out, Kept.ofBelow HB5.out, ?_⟩
        refine ⟨vo, (HB5.out.block _ (lt_of_block H1.out)).trans H1.out, (HB5.out.block _ (lt_of_block H2.out)).trans H2.out, ?_, H4.out.trans (HB5.out.mono H4.out.size)⟩
        rw [List.length_append, List.length_singleton, HDT.out]
        exact H35.out
      | false =>
        rw [show (!false) = true from rfl, if_pos rfl] at HDT
        go_wp2_with fail
        refine wpIn_cond_true rfl ?_
        refine wpIn_round_list ?hq5 (by kernel_rfl) ?_
        case hq5 =>
          rintro ⟨_, _, h⟩
          exact h
        have HB6 := Lib.hid (HB5.out.alloc HB5.out.size (.cells #[.int .i64 (pre.length : Int)] 3))
        have HO6 := Lib.hid (H35.out.alloc (.cells #[.int .i64 (pre.length : Int)] 3))
        have HN6 := Lib.hid (fun (w' : World) (hg : (w5.alloc (.cells #[.int .i64 (pre.length : Int)] 3)).grownBy w' vo.ownBlock) => (show w'.heap[w.heap.size + 1]? = some (.cells #[vo] 161 (0, 0)) from
          (hg.block (w.heap.size + 1) (by have := HB6.out.size; omega) (fun e => by have := (HO6.out.lt _ e.symm).1; omega)).trans ((HB6.out.block _ hsW).trans H2.out)))
        have hlen : (dirtyL d.L pre.length tl).length + [pre.length].length ≤ 1000000000 := by simp; omega
        have HLEN := Lib.hid hlen
        have hbs : w.heap.size + 3 ≤ (w5.alloc (.cells #[.int .i64 (pre.length : Int)] 3)).heap.size := by simp only [World.size_alloc]; have := HB5.out.size; omega
        clear hlen
        go_wp2_with ((with_reducible show wpList _ _ _ (⟨some 22, _, _, _, _, _⟩ :: _) _ _); go_must (refine wpList_append_sl natK _ rfl (.tmp 19) (.tmp 21) 161 rfl Try.underlying161 (w.heap.size + 3) vo _ rfl HO6.out _ _ [pre.length] rfl (sl_one natK w5 pre.length) HLEN.out (by decide) hbs ?_); intro v' w' ho' hg' _; obtain ⟨A7, c7, hv7, _⟩ := ho'.sl; generalize (dirtyL d.L pre.length tl ++ [pre.length]).length = n7 at hv7; subst hv7; have hq := HN6.out w' hg'; have d0 := cells_of hq 0 _ rfl; have df := free_of hq 0; have HO' := Lib.hid ho'; clear hq ho')
        exact DgI.step H1.out H2.out H4.out HB6.out HO6.out (by rw [HDT.out]; exact HO'.out) hg'
    · have e1 : decide (tl ≤ pre.length) = false := decide_eq_false ht
      rw [e1, Bool.false_and, if_neg (by decide), List.append_nil] at HDT
      go_wp2_with fail
      refine wpIn_cond_false rfl ?_
      refine wpIn_skip ?_
      refine ⟨KeepsFrom.ofBelow (Below.refl _ _), Kept.refl _ _, ?_⟩
      refine ⟨vo, H1.out, H2.out, ?_, H4.out⟩
      rw [List.length_append, List.length_singleton, HDT.out]
      exact H3.out
  case done =>
    rintro D ys W hD hys ⟨vo, h1, h2, h3, h4⟩ hK
    rw [hys] at h3
    obtain ⟨A7, c7, hv7, _⟩ := h3.sl
    generalize hn7 : (dirtyL d.L d.n tl).length = n7 at hv7
    subst hv7
    have c0 := cells_of h2 0 _ rfl
    have f0 := free_of h2 0
    have H2 := Lib.hid h2
    have H3 := Lib.hid h3
    have H4 := Lib.hid h4
    have HK := Lib.hid hK
    clear h1 h2 h3 h4 hK
    go_wp2
    have hDw := hD
    have hK6 := (KeepsOthers.setCell W ⟨w.heap.size + 1, 0, none⟩ (.slice A7 n7 c7)).same D _ HK.out rfl
    refine ⟨by simp, .inl ⟨_, _, rfl, run_takeDeferred hK6, ?_⟩⟩
    have hE6 : (W.setCell ⟨w.heap.size + 1, 0, none⟩ (.slice A7 n7 c7)).cell? ⟨w.heap.size + 1, 0, none⟩ = some (.slice A7 n7 c7) := World.cell?_setCell_same' _ _ _ (by rw [c0]; rfl)
    have hc6 := cell_kept hE6 (grownBy_putObj' _ D (.deferred none)) (fun r e => by cases e; exact ⟨_, hK6, rfl⟩)
    have ho6 := H3.out.kept (S := fun b => b ≠ w.heap.size + 1) ((Kept.refl _ W).setCell ⟨w.heap.size + 1, 0, none⟩ (.slice A7 n7 c7) (fun _ h => h rfl)) (fun g hg e => by have := (H3.out.lt g hg).1; omega)
    have ho7 := (ho6.from_ (grownBy_putObj' _ D (.deferred none)) (fun r e => by cases e; exact ⟨_, hK6, rfl⟩)).more (show w.heap.size ≤ w.heap.size + 3 by omega)
    refine ⟨.slice A7 n7 c7, ?_, _, rfl, ho7, (H4.out.setCell (p := ⟨w.heap.size + 1, 0, none⟩) (by show w.heap.size ≤ w.heap.size + 1; omega) _).trans (belowK_b (w := w) (Nat.le_refl _) _ D _ _ (by omega) hK6 rfl rfl)⟩
    simp [results, Try.results110, go_sem, hc6]
set_option maxRecDepth 100000 in
theorem sDirty_any {w : World} {Z : Nat → Prop} {g : Nat} {d : Dv} (h : Dk w Z g d) (hhi : ∀ b, Z b → b < w.heap.size) (tail : Int) : Calls Try.prog 69 #[.pointer (some ⟨g, 0, none⟩), .int .i64 tail] w fun e w' => e = .returned (.tuple #[.int .i64 (if rightE d tail = 0 then ((dirtyL d.L d.n tail.toNat).length : Int) else 0), .int .i64 (rightE d tail)]) ∧ Below w.heap.size w w' := by
  have hr := sright_any h tail
  by_cases h0 : rightE d tail = 0
  · obtain ⟨tl, rfl⟩ : ∃ tl : Nat, tail = (tl : Int) := by
      unfold rightE at h0
      split at h0
      · cases h0
      · exact ⟨tail.toNat, by omega⟩
    have hd := sdirty_any h hhi tl
    rw [if_pos h0, Int.toNat_natCast]
    rw [h0] at hr ⊢
    unfold DirtyPost at hd
    generalize dirtyL d.L d.n tl = l at *
    clear h hhi h0
    go_enter Try.func69, Try.ntmps69
    go_wp2_with ((go_at_call 109); refine hr.mono ?_; rintro e w3 ⟨rfl, rfl⟩)
    refine hd.mono ?_
    rintro e w1 ⟨v, rfl, ho, hb⟩
    obtain ⟨A7, c7, rfl, _⟩ := ho.sl
    clear ho
    go_wp2
    go_ret2
    exact ⟨rfl, hb⟩
  · rw [if_neg h0]
    generalize rightE d tail = r at *
    have e1 : (r == 0) = false := by rw [beq_eq_false_iff_ne]; exact h0
    have e2 : (r != 0) = true := by simp [e1, bne]
    clear h hhi h0
    go_enter Try.func69, Try.ntmps69
    go_wp2_with ((go_at_call 109); refine hr.mono ?_; rintro e w3 ⟨rfl, rfl⟩)
    go_ret2
    exact ⟨rfl, Below.refl _ _⟩
end Go.Proofs.Ytmcjefdnkcpghaa
/- octroilaw11.same and octroilaw12.same (as octroilaw10's, TaO). -/
namespace Go.Proofs.Ytmcjefdnkcpghaa
open Go.RowKit
set_option maxRecDepth 100000 in
set_option maxHeartbeats 2000000 in
theorem lsame11_any {w : World} {B1 B2 : Nat} {a b : Value} {la lb : List (List UInt8)} (ha : Byts w B1 a la) (hb : Byts w B2 b lb) (hl : la.length ≤ 100000) : Calls Try.prog 70 #[a, b] w fun e w' => e = .returned (.bool (decide (la = lb))) ∧ Below w.heap.size w w' := by
  obtain ⟨A1, c1, rfl, hc1, hm1⟩ := ha.form
  obtain ⟨A2, c2, rfl, hc2, hm2⟩ := hb.form
  unfold maxLen at hm1 hm2
  by_cases hlen : la.length = lb.length
  · have e1 : decide (la.length = lb.length) = true := decide_eq_true hlen
    have hle : la.length ≤ lb.length := by omega
    have hge : lb.length ≤ la.length := by omega
    have HA := Lib.hid ha
    have HB := Lib.hid hb
    have HLEN := Lib.hid hlen
    clear ha hb hlen e1
    go_enter Try.func70, Try.ntmps70
    go_wp2
    go_loopg [5, 13] la.length (fun gk x5 x13 wr => ∃ k : Nat, gk = la.length - k ∧ k ≤ la.length ∧ x13 = .int .i64 (k : Int) ∧ la.take k = lb.take k ∧ Below w.heap.size w wr)
    case atStart => exact ⟨0, rfl, Nat.zero_le _, rfl, rfl, Below.refl _ _⟩
    case round =>
      obtain ⟨k, hgk, hk, rfl, htk, hbel⟩ := hrel
      have HG := Lib.hid hgk
      have HTK := Lib.hid htk
      have HBE := Lib.hid hbel
      clear hgk htk
      by_cases h : k < la.length
      · obtain ⟨ad1, u1, rfl, _, hc1', hb1⟩ := (HA.out.heap.below HBE.out).atv k h
        obtain ⟨ad2, u2, rfl, _, hc2', hb2⟩ := (HB.out.heap.below HBE.out).atv k (by omega)
        have q1 : ∀ n, (convert 23 9 u1).run Try.prog (wr.drewN n) = .ok (.string (bsA la[k])) (wr.drewN n) := fun n => (show Byt (wr.drewN n) w.heap.size u1 _ from hb1).strA
        have q2 : ∀ n, (convert 23 9 u2).run Try.prog (wr.drewN n) = .ok (.string (bsA lb[k])) (wr.drewN n) := fun n => (show Byt (wr.drewN n) w.heap.size u2 _ from hb2).strA
        have ht1 : la.take (k + 1) = la.take k ++ [la[k]] := List.take_succ_eq_append_getElem h
        have ht2 : lb.take (k + 1) = lb.take k ++ [lb[k]] := List.take_succ_eq_append_getElem (by omega)
        have hne : la[k] ≠ lb[k] → la ≠ lb := fun h1 e => h1 (by subst e; rfl)
        have i1 : (0 : Int) ≤ (k : Int) := by omega
        have i2 : (k : Int) < (la.length : Int) := by omega
        have i3 : (k : Int) < (lb.length : Int) := by omega
        have i4 : k < lb.length := by omega
        by_cases hx : la[k] = lb[k]
        · have HT := Lib.hid (show la.take (k + 1) = lb.take (k + 1) by rw [ht1, ht2, HTK.out, hx])
          rw [hx] at q1
          clear ht1 ht2 hne hx hb1 hb2
          generalize bsA lb[k] = sk at *
          go_wp2
          go_quiet (fail)
          go_wp2
          go_roundg (la.length - (k + 1))
          case measure => have := HG.out; omega
          case rel => exact ⟨k + 1, rfl, by omega, by go_num, HT.out, HBE.out.trans ((drewN_below wr nq).mono HBE.out.size)⟩
        · have HNE := Lib.hid (decide_eq_false (hne hx))
          have e5 : ((bsA la[k]).toList == (bsA lb[k]).toList) = false := by
            have := bsA_bne la[k] lb[k]
            rw [decide_eq_false hx] at this
            unfold bne at this
            simpa using this
          have e6 : ((bsA la[k]).toList != (bsA lb[k]).toList) = true := by rw [bsA_bne, decide_eq_false hx]; rfl
          clear ht1 ht2 hne hx hb1 hb2
          generalize bsA la[k] = s1 at *
          generalize bsA lb[k] = s2 at *
          go_wp2
          go_quiet (fail)
          go_wp2
          go_ret
          exact ⟨ret_bool HNE.out.symm, HBE.out.trans ((drewN_below wr nq).mono HBE.out.size)⟩
      · have heq : la = lb := by
          have := HTK.out
          rw [List.take_of_length_le (by omega), List.take_of_length_le (by omega)] at this
          exact this
        have HEQ := Lib.hid heq
        clear heq
        go_wp2
        go_ret
        exact ⟨ret_bool (decide_eq_true HEQ.out).symm, HBE.out⟩
  · have HNE := Lib.hid (show decide (la = lb) = false from decide_eq_false fun e => hlen (by rw [e]))
    have e1 : decide (la.length = lb.length) = false := decide_eq_false hlen
    have e2 : ((la.length : Int) == (lb.length : Int)) = false := by rw [beq_eq_false_iff_ne]; omega
    have e3 : ((la.length : Int) != (lb.length : Int)) = true := by simp; omega
    have e4 : (la.length == lb.length) = false := by rw [beq_eq_false_iff_ne]; exact hlen
    clear hlen ha hb
    go_enter Try.func70, Try.ntmps70
    go_wp2
    go_ret
    exact ⟨ret_bool HNE.out.symm, Below.refl _ _⟩
set_option maxRecDepth 100000 in
set_option maxHeartbeats 2000000 in
theorem lsame12_any {w : World} {B1 B2 : Nat} {a b : Value} {la lb : List (List UInt8)} (ha : Byts w B1 a la) (hb : Byts w B2 b lb) (hl : la.length ≤ 100000) : Calls Try.prog 83 #[a, b] w fun e w' => e = .returned (.bool (decide (la = lb))) ∧ Below w.heap.size w w' := by
  obtain ⟨A1, c1, rfl, hc1, hm1⟩ := ha.form
  obtain ⟨A2, c2, rfl, hc2, hm2⟩ := hb.form
  unfold maxLen at hm1 hm2
  by_cases hlen : la.length = lb.length
  · have e1 : decide (la.length = lb.length) = true := decide_eq_true hlen
    have hle : la.length ≤ lb.length := by omega
    have hge : lb.length ≤ la.length := by omega
    have HA := Lib.hid ha
    have HB := Lib.hid hb
    have HLEN := Lib.hid hlen
    clear ha hb hlen e1
    go_enter Try.func83, Try.ntmps83
    go_wp2
    go_loopg [5, 13] la.length (fun gk x5 x13 wr => ∃ k : Nat, gk = la.length - k ∧ k ≤ la.length ∧ x13 = .int .i64 (k : Int) ∧ la.take k = lb.take k ∧ Below w.heap.size w wr)
    case atStart => exact ⟨0, rfl, Nat.zero_le _, rfl, rfl, Below.refl _ _⟩
    case round =>
      obtain ⟨k, hgk, hk, rfl, htk, hbel⟩ := hrel
      have HG := Lib.hid hgk
      have HTK := Lib.hid htk
      have HBE := Lib.hid hbel
      clear hgk htk
      by_cases h : k < la.length
      · obtain ⟨ad1, u1, rfl, _, hc1', hb1⟩ := (HA.out.heap.below HBE.out).atv k h
        obtain ⟨ad2, u2, rfl, _, hc2', hb2⟩ := (HB.out.heap.below HBE.out).atv k (by omega)
        have q1 : ∀ n, (convert 23 9 u1).run Try.prog (wr.drewN n) = .ok (.string (bsA la[k])) (wr.drewN n) := fun n => (show Byt (wr.drewN n) w.heap.size u1 _ from hb1).strA
        have q2 : ∀ n, (convert 23 9 u2).run Try.prog (wr.drewN n) = .ok (.string (bsA lb[k])) (wr.drewN n) := fun n => (show Byt (wr.drewN n) w.heap.size u2 _ from hb2).strA
        have ht1 : la.take (k + 1) = la.take k ++ [la[k]] := List.take_succ_eq_append_getElem h
        have ht2 : lb.take (k + 1) = lb.take k ++ [lb[k]] := List.take_succ_eq_append_getElem (by omega)
        have hne : la[k] ≠ lb[k] → la ≠ lb := fun h1 e => h1 (by subst e; rfl)
        have i1 : (0 : Int) ≤ (k : Int) := by omega
        have i2 : (k : Int) < (la.length : Int) := by omega
        have i3 : (k : Int) < (lb.length : Int) := by omega
        have i4 : k < lb.length := by omega
        by_cases hx : la[k] = lb[k]
        · have HT := Lib.hid (show la.take (k + 1) = lb.take (k + 1) by rw [ht1, ht2, HTK.out, hx])
          rw [hx] at q1
          clear ht1 ht2 hne hx hb1 hb2
          generalize bsA lb[k] = sk at *
          go_wp2
          go_quiet (fail)
          go_wp2
          go_roundg (la.length - (k + 1))
          case measure => have := HG.out; omega
          case rel => exact ⟨k + 1, rfl, by omega, by go_num, HT.out, HBE.out.trans ((drewN_below wr nq).mono HBE.out.size)⟩
        · have HNE := Lib.hid (decide_eq_false (hne hx))
          have e5 : ((bsA la[k]).toList == (bsA lb[k]).toList) = false := by
            have := bsA_bne la[k] lb[k]
            rw [decide_eq_false hx] at this
            unfold bne at this
            simpa using this
          have e6 : ((bsA la[k]).toList != (bsA lb[k]).toList) = true := by rw [bsA_bne, decide_eq_false hx]; rfl
          clear ht1 ht2 hne hx hb1 hb2
          generalize bsA la[k] = s1 at *
          generalize bsA lb[k] = s2 at *
          go_wp2
          go_quiet (fail)
          go_wp2
          go_ret
          exact ⟨ret_bool HNE.out.symm, HBE.out.trans ((drewN_below wr nq).mono HBE.out.size)⟩
      · have heq : la = lb := by
          have := HTK.out
          rw [List.take_of_length_le (by omega), List.take_of_length_le (by omega)] at this
          exact this
        have HEQ := Lib.hid heq
        clear heq
        go_wp2
        go_ret
        exact ⟨ret_bool (decide_eq_true HEQ.out).symm, HBE.out⟩
  · have HNE := Lib.hid (show decide (la = lb) = false from decide_eq_false fun e => hlen (by rw [e]))
    have e1 : decide (la.length = lb.length) = false := decide_eq_false hlen
    have e2 : ((la.length : Int) == (lb.length : Int)) = false := by rw [beq_eq_false_iff_ne]; omega
    have e3 : ((la.length : Int) != (lb.length : Int)) = true := by simp; omega
    have e4 : (la.length == lb.length) = false := by rw [beq_eq_false_iff_ne]; exact hlen
    clear hlen ha hb
    go_enter Try.func83, Try.ntmps83
    go_wp2
    go_ret
    exact ⟨ret_bool HNE.out.symm, Below.refl _ _⟩
end Go.Proofs.Ytmcjefdnkcpghaa
/- THE WIPE'S CLEAN. -/
namespace Go.Proofs.Ytmcjefdnkcpghaa
open Go.RowKit
set_option maxRecDepth 100000 in
theorem clean_any1 {w : World} {Z : Nat → Prop} {g : Nat} {d : Dv} (h : Dk w Z g d) {b2 b8 B : Nat} {v : Value} {m : List UInt8} (h2 : w.heap[b2]? = some (.cells #[.pointer (some ⟨g, 0, none⟩)] 41 (0, 0))) (h8 : w.heap[b8]? = some (.cells #[v] 23 (0, 0)))
    (hv : Byt w B v m) (i : Int) (hw : d.writes + 1 ≤ 1000000000) : Calls Try.prog 111 #[.int .i64 i, .pointer (some ⟨b2, 0, none⟩), .pointer (some ⟨b8, 0, none⟩)] w (DkPost w Z g (d.write i m).1 (d.write i m).2) := by
  have hwr := write_any h i hv hw
  obtain ⟨A, c, rfl, _, _, _⟩ := hv
  have c2 := cells_of h2 0 _ rfl
  have c8 := cells_of h8 0 _ rfl
  generalize (d.write i m).1 = d1 at *
  generalize (d.write i m).2 = r1 at *
  generalize m.length = n at *
  clear h h2 h8
  unfold DkPost at hwr
  go_enter Try.func111, Try.ntmps111
  go_wp2_with fail
  refine hwr.mono ?_
  rintro e w1 ⟨rfl, hq⟩
  go_wp2
  go_ret
  exact ⟨rfl, hq⟩
end Go.Proofs.Ytmcjefdnkcpghaa
/- THE SCANNER'S WIPE. -/
namespace Go.Proofs.Ytmcjefdnkcpghaa
open Go.RowKit
def wipeW (d : Dv) : List Nat → Dv × Int
  | [] => (d, 0)
  | i :: r => if (d.write i z64).2 = 0 then wipeW (d.write i z64).1 r else d.write i z64
def wipeR (d : Dv) (tail : Int) : Dv × Int × Int :=
  if rightE d tail = 0 then
    if (wipeW d (dirtyL d.L d.n tail.toNat)).2 = 0 then ((wipeW d (dirtyL d.L d.n tail.toNat)).1, ((dirtyL d.L d.n tail.toNat).length : Int), 0)
    else ((wipeW d (dirtyL d.L d.n tail.toNat)).1, 0, (wipeW d (dirtyL d.L d.n tail.toNat)).2)
  else (d, 0, rightE d tail)
def WipePost (w : World) (Z : Nat → Prop) (g : Nat) (R : Dv × Int × Int) (e : Ending) (w' : World) : Prop := e = .returned (.tuple #[.int .i64 R.2.1, .int .i64 R.2.2]) ∧ Dk w' Z g R.1 ∧ Kept (fun b => ¬ Z b) w w'
set_option maxRecDepth 100000 in
set_option maxHeartbeats 4000000 in
theorem swipe_any {w : World} {Z : Nat → Prop} {g : Nat} {d : Dv} (h : Dk w Z g d) (hhi : ∀ b, Z b → b < w.heap.size) (tail : Int) (hw : d.writes + 5000 ≤ 1000000000) : Calls Try.prog 68 #[.pointer (some ⟨g, 0, none⟩), .int .i64 tail] w (WipePost w Z g (wipeR d tail)) := by
  have hal : Below w.heap.size w (w.alloc (.cells #[.pointer (some ⟨g, 0, none⟩)] 41)) := (Below.refl _ _).alloc (Nat.le_refl _) _
  have hr := sright_any (h.below hal) tail
  unfold wipeR
  by_cases h0 : rightE d tail = 0
  · rw [if_pos h0]
    obtain ⟨tl, rfl⟩ : ∃ tl : Nat, tail = (tl : Int) := by
      unfold rightE at h0
      split at h0
      · cases h0
      · exact ⟨tail.toNat, by omega⟩
    rw [Int.toNat_natCast]
    rw [h0] at hr
    have hd := sdirty_any (h.below hal) (fun b hb => Nat.lt_of_lt_of_le (hhi b hb) hal.size) tl
    unfold DirtyPost at hd
    have hdl := dirtyL_len d.L tl d.n
    have hn2 := h.ok.n2
    generalize dirtyL d.L d.n tl = l at *
    generalize hR : (if (wipeW d l).2 = 0 then ((wipeW d l).1, (l.length : Int), 0) else ((wipeW d l).1, 0, (wipeW d l).2)) = R
    have HR := Lib.hid hR
    obtain ⟨i, hi, hz, hs, hbb⟩ := info_parts Try.byteInfo
    have hmk : ∀ w, (Instr.makeSlice 23 (.int .i64 64) (.int .i64 64)).run Try.prog w = .ok (.slice (some ⟨w.heap.size, 0, none⟩) 64 64) (w.alloc (.cells (z64.map bV).toArray 5)) := fun w => by
      have := run_make (P := Try.prog) w 23 5 i (.int .u8 0) Try.underlying23 hi hz .i64 .i64 64 64 (by omega) (Int.le_refl _) (by rw [hbb]; decide) (by omega)
      rw [this, hs, ← made_z64]; rfl
    have hzz := fun w => own_lit w z64 (by decide)
    generalize (z64.map bV).toArray = ZZ at *
    have HZZ := Lib.hid hzz
    have HAL := Lib.hid hal
    clear h0 hR hi hz hs hbb hzz
    go_enter Try.func68, Try.ntmps68
    go_wp2_with (first
      | ((go_at_call 109); refine hr.mono ?_; rintro e w3 ⟨rfl, rfl⟩)
      | ((go_at_call 110); refine hd.mono ?_; rintro e w1 ⟨v, rfl, ho, hb⟩; obtain ⟨A7, c7, hv7, _⟩ := ho.sl; subst hv7))
    have hs1 := hb.size
    simp only [World.size_alloc] at hs1
    have hbW : Below w.heap.size w w1 := HAL.out.trans (hb.mono HAL.out.size)
    have hk3 : Kept (fun b => ¬ Z b) w1 ((w1.alloc (.cells ZZ 5)).alloc (.cells #[.slice (some ⟨w1.heap.size, 0, none⟩) 64 64] 23)) := Kept.ofBelow (((Below.refl _ _).alloc (Nat.le_refl _) _).alloc (by simp) _)
    have hnz : ∀ b, w.heap.size ≤ b → ¬ Z b := fun b hb hz => by have := hhi b hz; omega
    have hbx1 := (hb.block w.heap.size (by simp)).trans (heap_alloc_new w (.cells #[.pointer (some ⟨g, 0, none⟩)] 41 (0, 0)))
    have hb8 := heap_alloc_new (w1.alloc (.cells ZZ 5)) (.cells #[.slice (some ⟨w1.heap.size, 0, none⟩) 64 64] 23 (0, 0))
    rw [World.size_alloc] at hb8
    have hz8 := (HZZ.out w1).alloc (.cells #[.slice (some ⟨w1.heap.size, 0, none⟩) 64 64] 23)
    have hF : ∀ wr, Kept (fun b => ¬ Z b) ((w1.alloc (.cells ZZ 5)).alloc (.cells #[.slice (some ⟨w1.heap.size, 0, none⟩) 64 64] 23)) wr → wr.heap[w.heap.size]? = some (.cells #[.pointer (some ⟨g, 0, none⟩)] 41 (0, 0)) ∧ wr.heap[w1.heap.size + 1]? = some (.cells #[.slice (some ⟨w1.heap.size, 0, none⟩) 64 64] 23 (0, 0)) ∧ Byt wr wr.heap.size (.slice (some ⟨w1.heap.size, 0, none⟩) 64 64) z64 ∧ Sl natK wr wr.heap.size (.slice A7 l.length c7) l ∧ Kept (fun b => ¬ Z b) w wr := by
      intro wr hk
      refine ⟨(hk3.trans hk (fun _ _ h => h)).heap hbx1 (hnz _ (Nat.le_refl _)), hk.heap hb8 (hnz _ (by omega)), (hz8.kept hk (fun g hg => hnz _ (by have := hz8.block g hg; omega))).byt, ((ho.kept (hk3.trans hk (fun _ _ h => h)) (fun g hg => hnz _ (by have := (ho.lt g hg).1; simp only [World.size_alloc] at this; omega)))).sl, ?_⟩
      exact (Kept.ofBelow (HAL.out.trans (hb.mono HAL.out.size))).trans (hk3.trans hk (fun _ _ h => h)) (fun _ _ h => h)
    have hd3 := ((h.below hbW).below (((Below.refl _ _).alloc (Nat.le_refl _) (.cells ZZ 5)).alloc (by simp) (.cells #[.slice (some ⟨w1.heap.size, 0, none⟩) 64 64] 23)))
    have HF := Lib.hid hF
    have HD3 := Lib.hid hd3
    clear hF hd3 hz8 hb8 hbx1 hk3 hbW ho hb h hd hr hmk
    go_loopg [11, 12, 26] l.length (fun gk x11 x12 x26 wr => ∃ (k : Nat) (dk : Dv), gk = l.length - k ∧ k ≤ l.length ∧ x26 = .int .i64 (k : Int) ∧ wipeW dk (l.drop k) = wipeW d l ∧ dk.writes ≤ d.writes + k ∧ Dk wr Z g dk ∧ Kept (fun b => ¬ Z b) ((w1.alloc (.cells ZZ 5)).alloc (.cells #[.slice (some ⟨w1.heap.size, 0, none⟩) 64 64] 23)) wr)
    case atStart => exact ⟨0, d, rfl, Nat.zero_le _, rfl, rfl, Nat.le_refl _, HD3.out, Kept.refl _ _⟩
    case round =>
      obtain ⟨k, dk, hgk, hk, rfl, hwk, hwr, hdk, hkp⟩ := hrel
      have HG := Lib.hid hgk
      have HWK := Lib.hid hwk
      have HDK := Lib.hid hdk
      have HKP := Lib.hid hkp
      clear hgk hwk hdk
      by_cases h : k < l.length
      · obtain ⟨q2, q8, qb, ql, _⟩ := HF.out wr hkp
        obtain ⟨ad, c', hv, _, hc2, hadb, hcell⟩ := ql.at_ k h
        cases hv
        have hcl := clean_any1 HDK.out q2 q8 qb (l[k] : Int) (by omega)
        have hcell' : wr.cell? (ad.add k) = some (.int .i64 (l[k] : Int)) := hcell
        have hdr : l.drop k = l[k] :: l.drop (k + 1) := List.drop_eq_getElem_cons h
        have hwk := HWK.out
        rw [hdr, wipeW] at hwk
        have i1 : (0 : Int) ≤ (k : Int) := by omega
        have i2 : (k : Int) < (l.length : Int) := by omega
        have i3 : IntKind.i64.wrap ((k : Int) + 1) = (k : Int) + 1 := by rw [IntKind.wrap_i64]; omega
        generalize l[k] = ik at *
        have hww : (dk.write (ik : Int) z64).1.writes ≤ dk.writes + 1 := by
          unfold Dv.write
          split
          · exact Nat.le_succ _
          · split
            · exact Nat.le_succ _
            · split <;> simp
        unfold DkPost at hcl
        generalize hpw : dk.write (ik : Int) z64 = pw at *
        obtain ⟨d1, r1⟩ := pw
        simp only at hwk hww hcl
        have HWK2 := Lib.hid hwk
        clear hwk hdr hcell hkp q2 q8 qb ql hpw
        go_wp2_with fail
        refine hcl.mono ?_
        rintro e w8 ⟨rfl, hd8, hk8⟩
        have HD8 := Lib.hid hd8
        have HK8 := Lib.hid (HKP.out.trans hk8 (fun _ _ h => h))
        clear hcl hd8 hk8 hcell'
        by_cases hr1 : r1 = 0
        · subst hr1
          have hwk := HWK2.out
          rw [if_pos rfl] at hwk
          have HWK3 := Lib.hid hwk
          clear hwk
          go_wp2
          go_roundg (l.length - (k + 1))
          case measure => have := HG.out; omega
          case rel => exact ⟨k + 1, d1, rfl, by omega, by simp, HWK3.out, by omega, HD8.out, HK8.out⟩
        · have hwk := HWK2.out
          rw [if_neg hr1] at hwk
          have hR := HR.out
          rw [← hwk] at hR
          simp only at hR
          rw [if_neg hr1] at hR
          subst hR
          have e1 : (r1 == 0) = false := by rw [beq_eq_false_iff_ne]; exact hr1
          have e2 : (r1 != 0) = true := by simp [e1, bne]
          clear hwk hr1
          go_wp2
          go_ret2
          exact ⟨rfl, HD8.out, (HF.out _ HK8.out).2.2.2.2⟩
      · obtain rfl : k = l.length := by omega
        have hwk := HWK.out
        rw [List.drop_length, wipeW] at hwk
        have hR := HR.out
        rw [← hwk] at hR
        simp only [if_true] at hR
        subst hR
        clear hwk
        go_wp2
        go_ret2
        exact ⟨rfl, HDK.out, (HF.out _ hkp).2.2.2.2⟩
  · rw [if_neg h0]
    generalize rightE d tail = r at *
    have e1 : (r == 0) = false := by rw [beq_eq_false_iff_ne]; exact h0
    have e2 : (r != 0) = true := by simp [e1, bne]
    have H := Lib.hid h
    have HAL := Lib.hid hal
    clear h hhi h0 hw hal
    go_enter Try.func68, Try.ntmps68
    go_wp2_with ((go_at_call 109); refine hr.mono ?_; rintro e w3 ⟨rfl, rfl⟩)
    go_ret2
    exact ⟨rfl, H.out.below HAL.out, Kept.ofBelow HAL.out⟩
end Go.Proofs.Ytmcjefdnkcpghaa
/- THE SCANNER ON A DISK WITHOUT POWER. -/
namespace Go.Proofs.Ytmcjefdnkcpghaa
open Go.RowKit
set_option maxRecDepth 100000 in
theorem page_bad {w : World} {Z : Nat → Prop} {g b : Nat} {d : Dv} (h : Dk w Z g d) (hb : w.heap[b]? = some (.cells #[.pointer (some ⟨g, 0, none⟩), .int .i64 0] 157 (0, 0))) (i : Int) (hi : d.can i ≠ 0) :
    Calls Try.prog 107 #[.pointer (some ⟨b, 0, none⟩), .int .i64 i] w fun e w' => ∃ r, e = .returned (.tuple #[r, .bool false]) ∧ w'.heap[b]? = some (.cells #[.pointer (some ⟨g, 0, none⟩), .int .i64 (d.can i)] 157 (0, 0)) ∧ Below b w w' := by
  have hr := read_any h i
  unfold ReadPost at hr
  have c0 := cells_of hb 0 _ rfl
  have c1 := cells_of hb 1 _ rfl
  have hlt := lt_of_block hb
  generalize d.can i = r0 at *
  have e1 : (r0 == 0) = false := by rw [beq_eq_false_iff_ne]; exact hi
  have HB := Lib.hid hb
  clear hb h hi
  go_enter Try.func107, Try.ntmps107
  go_wp2_with fail
  refine hr.mono ?_
  rintro e w1 ⟨r, rfl, ho1, hb1⟩
  have hx := (hb1.block b hlt).trans HB.out
  have d0 := cells_of hx 0 _ rfl
  have d1 := cells_of hx 1 _ rfl
  have hf := free_of hx 1
  have HX := Lib.hid hx
  clear hr c0 c1 ho1 hx
  go_wp2
  go_ret2
  refine ⟨_, rfl, ?_, (hb1.mono (Nat.le_of_lt hlt)).setCell (p := ⟨b, 1, none⟩) (Nat.le_refl _) _⟩
  simpa using Lib.heap_setCell_same (i := 1) HX.out (.int .i64 r0)
set_option maxRecDepth 100000 in
set_option maxHeartbeats 4000000 in
theorem sfind_dead {w : World} {Z : Nat → Prop} {g : Nat} {d : Dv} (h : Dk w Z g d) (hd : d.dead = true) :
    Calls Try.prog 67 #[.pointer (some ⟨g, 0, none⟩)] w fun e w' => e = .returned (.tuple #[.slice none 0 0, .int .i64 0, .int .i64 32]) ∧ Below w.heap.size w w' := by
  have hbel0 : Below w.heap.size w (w.alloc (.cells #[.pointer (some ⟨g, 0, none⟩), .int .i64 0] 157)) := (Below.refl _ _).alloc (Nat.le_refl _) _
  have hcan : d.can 0 = 32 := by unfold Dv.can; rw [hd, if_pos rfl]
  have hp0 := page_bad (h.below hbel0) (heap_alloc_new w _) 0 (by rw [hcan]; decide)
  rw [hcan] at hp0
  have HB0 := Lib.hid hbel0
  clear h hbel0 hcan hd
  have hbd : ∀ W, (Instr.build 157 #[(0, .pointer (some ⟨g, 0, none⟩))]).run Try.prog W = .ok (.agg #[.pointer (some ⟨g, 0, none⟩), .int .i64 0]) W := fun W => run_build W 157 _ _ (by rfl)
  go_enter Try.func67, Try.ntmps67
  go_wp2_with fail
  refine wp_scope_label2 0 (fun _ _ => False) (fun _ _ => 0) rfl (fun _ _ _ h => wp_skip_seq2 h) (fun hp => ?_) (fun _ _ h => h.elim)
  go_wp2_with fail
  refine hp0.mono ?_
  rintro e w1 ⟨r, rfl, hx1, hb1⟩
  have c1 := cells_of hx1 1 _ rfl
  have HB1 := Lib.hid (HB0.out.trans hb1)
  clear hp0 hb1 hx1
  go_wp2_with fail
  go_quiet (fail)
  rename_i nq
  go_wp2
  try simp only [Exit.jump]
  exact bodyPost_ret (v := .tuple #[.slice none 0 0, .int .i64 0, .int .i64 32]) (by simp [results, Try.results67, go_sem]) rfl ⟨rfl, HB1.out.trans ((drewN_below w1 _).mono HB1.out.size)⟩
end Go.Proofs.Ytmcjefdnkcpghaa
/- THE SCANNER ON NO DISK. -/
namespace Go.Proofs.Ytmcjefdnkcpghaa
open Go.RowKit
set_option maxRecDepth 100000 in
theorem snone_nil (w : World) : Calls Try.prog 90 #[.pointer none] w fun e w' => e = .returned (.bool true) ∧ w = w' := by
  go_enter Try.func90, Try.ntmps90
  go_wp2
  go_ret
  exact ⟨rfl, rfl⟩
set_option maxRecDepth 100000 in
theorem slen_nil (w : World) : Calls Try.prog 94 #[.pointer none] w fun e w' => e = .returned (.int .i64 0) ∧ w = w' := by
  have hn := snone_nil w
  go_enter Try.func94, Try.ntmps94
  go_wp2_with ((go_at_call 90); refine hn.mono ?_; rintro e w1 ⟨rfl, rfl⟩)
  go_ret
  exact ⟨rfl, rfl⟩
set_option maxRecDepth 100000 in
theorem sright_nil (w : World) (tail : Int) : Calls Try.prog 109 #[.pointer none, .int .i64 tail] w fun e w' => e = .returned (.int .i64 1) ∧ w = w' := by
  have hn := slen_nil w
  go_enter Try.func109, Try.ntmps109
  go_wp2_with ((go_at_call 94); refine hn.mono ?_; rintro e w1 ⟨rfl, rfl⟩)
  go_ret
  exact ⟨rfl, rfl⟩
set_option maxRecDepth 100000 in
theorem sDirty_nil (w : World) (tail : Int) : Calls Try.prog 69 #[.pointer none, .int .i64 tail] w fun e w' => e = .returned (.tuple #[.int .i64 0, .int .i64 1]) ∧ w = w' := by
  have hn := sright_nil w tail
  go_enter Try.func69, Try.ntmps69
  go_wp2_with ((go_at_call 109); refine hn.mono ?_; rintro e w1 ⟨rfl, rfl⟩)
  go_ret2
  exact ⟨rfl, rfl⟩
set_option maxRecDepth 100000 in
theorem sWipe_nil (w : World) (tail : Int) : Calls Try.prog 68 #[.pointer none, .int .i64 tail] w fun e w' => e = .returned (.tuple #[.int .i64 0, .int .i64 1]) ∧ Below w.heap.size w w' := by
  have hn := fun w => sright_nil w tail
  go_enter Try.func68, Try.ntmps68
  go_wp2_with ((go_at_call 109); refine (hn _).mono ?_; rintro e w1 ⟨rfl, rfl⟩)
  go_ret2
  exact ⟨rfl, (Below.refl _ _).alloc (Nat.le_refl _) _⟩
set_option maxRecDepth 100000 in
theorem can_nil (w : World) (i : Int) : Calls Try.prog 89 #[.pointer none, .int .i64 i] w fun e w' => e = .returned (.int .i64 1) ∧ w = w' := by
  have hn := snone_nil w
  go_enter Try.func89, Try.ntmps89
  go_wp2_with ((go_at_call 90); refine hn.mono ?_; rintro e w1 ⟨rfl, rfl⟩)
  go_ret
  exact ⟨rfl, rfl⟩
set_option maxRecDepth 100000 in
theorem read_nil (w : World) (i : Int) : Calls Try.prog 39 #[.pointer none, .int .i64 i] w fun e w' => e = .returned (.tuple #[.slice none 0 0, .int .i64 1]) ∧ w = w' := by
  have hn := can_nil w i
  go_enter Try.func39, Try.ntmps39
  go_wp2_with ((go_at_call 89); refine hn.mono ?_; rintro e w1 ⟨rfl, rfl⟩)
  go_ret2
  exact ⟨rfl, rfl⟩
set_option maxRecDepth 100000 in
theorem page_nil {w : World} {b : Nat} (hb : w.heap[b]? = some (.cells #[.pointer none, .int .i64 0] 157 (0, 0))) (i : Int) :
    Calls Try.prog 107 #[.pointer (some ⟨b, 0, none⟩), .int .i64 i] w fun e w' => ∃ r, e = .returned (.tuple #[r, .bool false]) ∧ w'.heap[b]? = some (.cells #[.pointer none, .int .i64 1] 157 (0, 0)) ∧ Below b w w' := by
  have hr := read_nil w i
  have c0 := cells_of hb 0 _ rfl
  have c1 := cells_of hb 1 _ rfl
  have hlt := lt_of_block hb
  have hf := free_of hb 1
  have HB := Lib.hid hb
  clear hb
  go_enter Try.func107, Try.ntmps107
  go_wp2_with ((go_at_call 39); refine hr.mono ?_; rintro e w1 ⟨rfl, rfl⟩)
  go_ret2
  refine ⟨_, rfl, ?_, (Below.refl b w).setCell (p := ⟨b, 1, none⟩) (Nat.le_refl _) _⟩
  simpa using Lib.heap_setCell_same (i := 1) HB.out (.int .i64 1)
set_option maxRecDepth 100000 in
set_option maxHeartbeats 4000000 in
theorem sfind_nil (w : World) : Calls Try.prog 67 #[.pointer none] w fun e w' => e = .returned (.tuple #[.slice none 0 0, .int .i64 0, .int .i64 1]) ∧ Below w.heap.size w w' := by
  have hbel0 : Below w.heap.size w (w.alloc (.cells #[.pointer none, .int .i64 0] 157)) := (Below.refl _ _).alloc (Nat.le_refl _) _
  have hp0 := page_nil (heap_alloc_new w (.cells #[.pointer none, .int .i64 0] 157 (0, 0))) 0
  have HB0 := Lib.hid hbel0
  clear hbel0
  have hbd : ∀ W, (Instr.build 157 #[(0, .pointer none)]).run Try.prog W = .ok (.agg #[.pointer none, .int .i64 0]) W := fun W => run_build W 157 _ _ (by rfl)
  go_enter Try.func67, Try.ntmps67
  go_wp2_with fail
  refine wp_scope_label2 0 (fun _ _ => False) (fun _ _ => 0) rfl (fun _ _ _ h => wp_skip_seq2 h) (fun hp => ?_) (fun _ _ h => h.elim)
  go_wp2_with fail
  refine hp0.mono ?_
  rintro e w1 ⟨r, rfl, hx1, hb1⟩
  have c1 := cells_of hx1 1 _ rfl
  have HB1 := Lib.hid (HB0.out.trans hb1)
  clear hp0 hb1 hx1
  go_wp2_with fail
  go_quiet (fail)
  rename_i nq
  go_wp2
  try simp only [Exit.jump]
  exact bodyPost_ret (v := .tuple #[.slice none 0 0, .int .i64 0, .int .i64 1]) (by simp [results, Try.results67, go_sem]) rfl ⟨rfl, HB1.out.trans ((drewN_below w1 _).mono HB1.out.size)⟩
end Go.Proofs.Ytmcjefdnkcpghaa
/- THE SCANNER ON A DISK THAT NO CALL MADE. -/
namespace Go.Proofs.Ytmcjefdnkcpghaa
open Go.RowKit
/-- a disk whose fields are zero -/
def Dz (w : World) (g : Nat) : Prop := w.heap[g]? = some (.cells #[.slice none 0 0, .pointer none, .bool false, .int .i64 0] 102 (0, 0))
theorem Dz.below {w w' : World} {g : Nat} (h : Dz w g) (k : Below w.heap.size w w') : Dz w' g := (k.block g (lt_of_block h)).trans h
set_option maxRecDepth 100000 in
theorem snone_zero {w : World} {g : Nat} (hz : Dz w g) : Calls Try.prog 90 #[.pointer (some ⟨g, 0, none⟩)] w fun e w' => e = .returned (.bool true) ∧ w = w' := by
  have hz0 := hz
  unfold Dz at hz0
  have c0 := cells_of hz0 0 _ rfl
  have hq := fun (w : World) (A : Option Addr) (n c : Nat) => Lib.run_eql_slice_nil (P := Try.prog) w 99 141 A n c 0 0 Try.underlying99
  clear hz hz0
  go_enter Try.func90, Try.ntmps90
  go_wp2
  go_ret
  exact ⟨rfl, rfl⟩
set_option maxRecDepth 100000 in
theorem slen_zero {w : World} {g : Nat} (hz : Dz w g) : Calls Try.prog 94 #[.pointer (some ⟨g, 0, none⟩)] w fun e w' => e = .returned (.int .i64 0) ∧ w = w' := by
  have hn := snone_zero hz
  go_enter Try.func94, Try.ntmps94
  go_wp2_with ((go_at_call 90); refine hn.mono ?_; rintro e w1 ⟨rfl, rfl⟩)
  go_ret
  exact ⟨rfl, rfl⟩
set_option maxRecDepth 100000 in
theorem sright_zero {w : World} {g : Nat} (hz : Dz w g) (tail : Int) : Calls Try.prog 109 #[.pointer (some ⟨g, 0, none⟩), .int .i64 tail] w fun e w' => e = .returned (.int .i64 1) ∧ w = w' := by
  have hn := slen_zero hz
  go_enter Try.func109, Try.ntmps109
  go_wp2_with ((go_at_call 94); refine hn.mono ?_; rintro e w1 ⟨rfl, rfl⟩)
  go_ret
  exact ⟨rfl, rfl⟩
set_option maxRecDepth 100000 in
theorem sDirty_zero {w : World} {g : Nat} (hz : Dz w g) (tail : Int) : Calls Try.prog 69 #[.pointer (some ⟨g, 0, none⟩), .int .i64 tail] w fun e w' => e = .returned (.tuple #[.int .i64 0, .int .i64 1]) ∧ w = w' := by
  have hn := sright_zero hz tail
  go_enter Try.func69, Try.ntmps69
  go_wp2_with ((go_at_call 109); refine hn.mono ?_; rintro e w1 ⟨rfl, rfl⟩)
  go_ret2
  exact ⟨rfl, rfl⟩
set_option maxRecDepth 100000 in
theorem sWipe_zero {w : World} {g : Nat} (hz : Dz w g) (tail : Int) : Calls Try.prog 68 #[.pointer (some ⟨g, 0, none⟩), .int .i64 tail] w fun e w' => e = .returned (.tuple #[.int .i64 0, .int .i64 1]) ∧ Below w.heap.size w w' := by
  have hal := (Below.refl w.heap.size w).alloc (Nat.le_refl _) (.cells #[.pointer (some ⟨g, 0, none⟩)] 41)
  have hn := sright_zero (hz.below hal) tail
  go_enter Try.func68, Try.ntmps68
  go_wp2_with ((go_at_call 109); refine hn.mono ?_; rintro e w1 ⟨rfl, rfl⟩)
  go_ret2
  exact ⟨rfl, (Below.refl _ _).alloc (Nat.le_refl _) _⟩
set_option maxRecDepth 100000 in
theorem can_zero2 {w : World} {g : Nat} (hz : Dz w g) (i : Int) : Calls Try.prog 89 #[.pointer (some ⟨g, 0, none⟩), .int .i64 i] w fun e w' => e = .returned (.int .i64 1) ∧ w = w' := by
  have hn := snone_zero hz
  go_enter Try.func89, Try.ntmps89
  go_wp2_with ((go_at_call 90); refine hn.mono ?_; rintro e w1 ⟨rfl, rfl⟩)
  go_ret
  exact ⟨rfl, rfl⟩
set_option maxRecDepth 100000 in
theorem read_zero {w : World} {g : Nat} (hz : Dz w g) (i : Int) : Calls Try.prog 39 #[.pointer (some ⟨g, 0, none⟩), .int .i64 i] w fun e w' => e = .returned (.tuple #[.slice none 0 0, .int .i64 1]) ∧ w = w' := by
  have hn := can_zero2 hz i
  go_enter Try.func39, Try.ntmps39
  go_wp2_with ((go_at_call 89); refine hn.mono ?_; rintro e w1 ⟨rfl, rfl⟩)
  go_ret2
  exact ⟨rfl, rfl⟩
set_option maxRecDepth 100000 in
theorem page_zero2 {w : World} {b g : Nat} (hz : Dz w g) (hb : w.heap[b]? = some (.cells #[.pointer (some ⟨g, 0, none⟩), .int .i64 0] 157 (0, 0))) (i : Int) :
    Calls Try.prog 107 #[.pointer (some ⟨b, 0, none⟩), .int .i64 i] w fun e w' => ∃ r, e = .returned (.tuple #[r, .bool false]) ∧ w'.heap[b]? = some (.cells #[.pointer (some ⟨g, 0, none⟩), .int .i64 1] 157 (0, 0)) ∧ Below b w w' := by
  have hr := read_zero hz i
  have c0 := cells_of hb 0 _ rfl
  have c1 := cells_of hb 1 _ rfl
  have hlt := lt_of_block hb
  have hf := free_of hb 1
  have HB := Lib.hid hb
  clear hb hz
  go_enter Try.func107, Try.ntmps107
  go_wp2_with ((go_at_call 39); refine hr.mono ?_; rintro e w1 ⟨rfl, rfl⟩)
  go_ret2
  refine ⟨_, rfl, ?_, (Below.refl b w).setCell (p := ⟨b, 1, none⟩) (Nat.le_refl _) _⟩
  simpa using Lib.heap_setCell_same (i := 1) HB.out (.int .i64 1)
set_option maxRecDepth 100000 in
set_option maxHeartbeats 4000000 in
theorem sfind_zero {w : World} {g : Nat} (hz : Dz w g) : Calls Try.prog 67 #[.pointer (some ⟨g, 0, none⟩)] w fun e w' => e = .returned (.tuple #[.slice none 0 0, .int .i64 0, .int .i64 1]) ∧ Below w.heap.size w w' := by
  have hbel0 : Below w.heap.size w (w.alloc (.cells #[.pointer (some ⟨g, 0, none⟩), .int .i64 0] 157)) := (Below.refl _ _).alloc (Nat.le_refl _) _
  have hp0 := page_zero2 (hz.below hbel0) (heap_alloc_new w (.cells #[.pointer (some ⟨g, 0, none⟩), .int .i64 0] 157 (0, 0))) 0
  have HB0 := Lib.hid hbel0
  clear hbel0 hz
  have hbd : ∀ W, (Instr.build 157 #[(0, .pointer (some ⟨g, 0, none⟩))]).run Try.prog W = .ok (.agg #[.pointer (some ⟨g, 0, none⟩), .int .i64 0]) W := fun W => run_build W 157 _ _ (by rfl)
  go_enter Try.func67, Try.ntmps67
  go_wp2_with fail
  refine wp_scope_label2 0 (fun _ _ => False) (fun _ _ => 0) rfl (fun _ _ _ h => wp_skip_seq2 h) (fun hp => ?_) (fun _ _ h => h.elim)
  go_wp2_with fail
  refine hp0.mono ?_
  rintro e w1 ⟨r, rfl, hx1, hb1⟩
  have c1 := cells_of hx1 1 _ rfl
  have HB1 := Lib.hid (HB0.out.trans hb1)
  clear hp0 hb1 hx1
  go_wp2_with fail
  go_quiet (fail)
  rename_i nq
  go_wp2
  try simp only [Exit.jump]
  exact bodyPost_ret (v := .tuple #[.slice none 0 0, .int .i64 0, .int .i64 1]) (by simp [results, Try.results67, go_sem]) rfl ⟨rfl, HB1.out.trans ((drewN_below w1 _).mono HB1.out.size)⟩
end Go.Proofs.Ytmcjefdnkcpghaa
/- THE DOCUMENT'S WIPE: plainly. -/
namespace Go.Proofs.Ytmcjefdnkcpghaa
open Go.RowKit
theorem write_n (d : Dv) (i : Int) (m : List UInt8) : (d.write i m).1.n = d.n := by
  unfold Dv.write
  split
  · rfl
  · split
    · rfl
    · split <;> rfl
theorem splice_len {L m : List UInt8} {o : Nat} (h : o + m.length ≤ L.length) : (splice L o m).length = L.length := by
  unfold splice
  simp
  omega
theorem write_okk {d : Dv} (h : d.ok) (hw : d.writes + 1 ≤ 1000000000) (i : Int) (m : List UInt8) : (d.write i m).1.ok := by
  have h1 := h.n1
  have h2 := h.n2
  have h3 := h.len
  have h4 := h.fus
  have h5 := h.wr
  unfold Dv.write
  split
  · exact h
  · next hz =>
    have hz' : d.can i = 0 := Classical.not_not.1 hz
    obtain ⟨hi0, hi1, hdead⟩ := can_zero hz'
    split
    · exact h
    · next hm =>
      have hm' : m.length = 64 := Classical.not_not.1 hm
      have hs : ∀ t, t ≤ 64 → (splice d.L (i.toNat * 64) (m.take t)).length = 64 * d.n := fun t ht => by
        rw [splice_len, h3]
        rw [List.length_take, h3]; omega
      split
      · next t he =>
        exact ⟨h1, h2, hs _ (h4 _ _ he).2, fun a t e => (by cases e), h5⟩
      · next a t he =>
        have := h4 _ _ he
        exact ⟨h1, h2, hs _ (by omega), fun a' t' e => (by cases e; omega), by simp only; omega⟩
      · next he => exact ⟨h1, h2, hs _ (by omega), fun a' t' e => (by rw [he] at e; cases e), by simp only; omega⟩
theorem write_other {d : Dv} (h : d.ok) (i : Int) (m : List UInt8) (j : Nat) (hj : (j : Int) ≠ i) : page (d.write i m).1.L j = page d.L j := by
  have h3 := h.len
  have h4 := h.fus
  unfold Dv.write
  split
  · rfl
  · next hz =>
    have hz' : d.can i = 0 := Classical.not_not.1 hz
    obtain ⟨hi0, hi1, hdead⟩ := can_zero hz'
    split
    · rfl
    · next hm =>
      have hm' : m.length = 64 := Classical.not_not.1 hm
      have hs : ∀ t, t ≤ 64 → page (splice d.L (i.toNat * 64) (m.take t)) j = page d.L j := fun t ht => page_splice_other h3 (by omega) hm' ht (by omega)
      split
      · next t he => exact hs _ (h4 _ _ he).2
      · exact hs _ (by omega)
      · exact hs _ (by omega)
/-- the dirty sectors from i on -/
def restL (L : List UInt8) (n tail i : Nat) : List Nat := (List.range' i (n - i)).filter fun j => decide (tail ≤ j) && !blankB (page L j)
theorem dirtyL_rest (L : List UInt8) (n tail i : Nat) (h : i ≤ n) : dirtyL L n tail = dirtyL L i tail ++ restL L n tail i := by
  unfold dirtyL restL
  rw [← List.filter_append]
  congr 1
  rw [List.range_eq_range', List.range_eq_range']
  have := @List.range'_append_1 0 i (n - i)
  rw [Nat.zero_add] at this
  rw [this]
  congr 1; omega
theorem restL_step (L : List UInt8) (n tail i : Nat) (h : i < n) (ht : tail ≤ i) : restL L n tail i = (if blankB (page L i) = true then [] else [i]) ++ restL L n tail (i + 1) := by
  unfold restL
  rw [show n - i = (n - (i + 1)) + 1 by omega, List.range'_succ, List.filter_cons]
  rw [decide_eq_true ht, Bool.true_and]
  cases blankB (page L i) <;> simp
theorem restL_end (L : List UInt8) (n tail : Nat) : restL L n tail n = [] := by unfold restL; simp
theorem restL_all (L : List UInt8) (n tail : Nat) (h : tail ≤ n) : restL L n tail tail = dirtyL L n tail := by
  rw [dirtyL_rest L n tail tail h, dirtyL_low L tail tail (Nat.le_refl _), List.nil_append]
theorem restL_len (L : List UInt8) (n tail i : Nat) (h : i ≤ n) : (dirtyL L n tail).length = (dirtyL L i tail).length + (restL L n tail i).length := by
  rw [dirtyL_rest L n tail i h, List.length_append]
theorem wipe_plan (L : List UInt8) (n tail : Nat) (h : tail ≤ n) : ∃ (m : Nat → Nat) (rs : Nat → List Nat), m tail = 0 ∧ rs tail = dirtyL L n tail ∧ rs n = [] ∧ m n = (dirtyL L n tail).length ∧ (∀ i, m i ≤ i) ∧
    ∀ i, i < n → tail ≤ i → (blankB (page L i) = true → m (i + 1) = m i ∧ rs i = rs (i + 1)) ∧ (blankB (page L i) = false → m (i + 1) = m i + 1 ∧ rs i = i :: rs (i + 1)) := by
  refine ⟨fun i => (dirtyL L i tail).length, fun i => restL L n tail i, ?_, restL_all L n tail h, restL_end L n tail, rfl, dirtyL_len L tail, fun i hi ht => ⟨fun hb => ⟨?_, ?_⟩, fun hb => ⟨?_, ?_⟩⟩⟩
  · simp only; rw [dirtyL_low L tail tail (Nat.le_refl _)]; rfl
  · simp only; rw [dirtyL_take, hb]; simp
  · simp only; rw [restL_step L n tail i hi ht, hb]; rfl
  · simp only; rw [dirtyL_take, hb, decide_eq_true ht]; simp
  · simp only; rw [restL_step L n tail i hi ht, hb]; rfl
end Go.Proofs.Ytmcjefdnkcpghaa
/- THE DOCUMENT'S WIPE: the walk. -/
namespace Go.Proofs.Ytmcjefdnkcpghaa
open Go.RowKit
def rvS (d : Dv) (r : Int) : Sp := ⟨fun x w => ∃ v, x = .tuple #[v, .int .i64 r] ∧ Rv w w.heap.size v d, fun x w w' h hb => by
  obtain ⟨v, e, hr⟩ := h
  exact ⟨v, e, (hr.below hb).heap⟩⟩
def RWipePost (w : World) (R : Dv × Int × Int) (e : Ending) (w' : World) : Prop := ∃ v, e = .returned (.tuple #[v, .int .i64 R.2.1, .int .i64 R.2.2]) ∧ Rv w' w'.heap.size v R.1 ∧ Below w.heap.size w w'
theorem wipe_ret {w W : World} {b : Nat} {dk : Dv} {u v0 v1 v2 v3 v4 : Value} (hr : Rv W W.heap.size (.agg #[v0, v1, v2, v3, v4]) dk) (hx : RBox W b u) (hlo : w.heap.size ≤ b) (hbel : Below w.heap.size w W) :
    RBox (((((W.setCell ⟨b, 0, none⟩ v0).setCell ⟨b, 1, none⟩ v1).setCell ⟨b, 2, none⟩ v2).setCell ⟨b, 3, none⟩ v3).setCell ⟨b, 4, none⟩ v4) b (.agg #[v0, v1, v2, v3, v4]) ∧
    Rv (((((W.setCell ⟨b, 0, none⟩ v0).setCell ⟨b, 1, none⟩ v1).setCell ⟨b, 2, none⟩ v2).setCell ⟨b, 3, none⟩ v3).setCell ⟨b, 4, none⟩ v4) (((((W.setCell ⟨b, 0, none⟩ v0).setCell ⟨b, 1, none⟩ v1).setCell ⟨b, 2, none⟩ v2).setCell ⟨b, 3, none⟩ v3).setCell ⟨b, 4, none⟩ v4).heap.size (.agg #[v0, v1, v2, v3, v4]) dk ∧
    Below w.heap.size w (((((W.setCell ⟨b, 0, none⟩ v0).setCell ⟨b, 1, none⟩ v1).setCell ⟨b, 2, none⟩ v2).setCell ⟨b, 3, none⟩ v3).setCell ⟨b, 4, none⟩ v4) ∧
    (∀ b' u', b' ≠ b → RBox W b' u' → RBox (((((W.setCell ⟨b, 0, none⟩ v0).setCell ⟨b, 1, none⟩ v1).setCell ⟨b, 2, none⟩ v2).setCell ⟨b, 3, none⟩ v3).setCell ⟨b, 4, none⟩ v4) b' u') := by
  obtain ⟨h1, h2⟩ := hx.set v0 v1 v2 v3 v4
  exact ⟨h1, hr.other hx h2, ((((hbel.setCell (p := ⟨b, 0, none⟩) hlo _).setCell (p := ⟨b, 1, none⟩) hlo _).setCell (p := ⟨b, 2, none⟩) hlo _).setCell (p := ⟨b, 3, none⟩) hlo _).setCell (p := ⟨b, 4, none⟩) hlo _, fun b' u' hne hb => (by obtain ⟨u0, u1, u2, u3, u4, e, hb⟩ := hb; exact ⟨u0, u1, u2, u3, u4, e, h2.heap hb hne⟩)⟩
set_option maxRecDepth 100000 in
set_option maxHeartbeats 4000000 in
theorem rwipe_any {w : World} {B : Nat} {v : Value} {d : Dv} (h : Rv w B v d) (hok : d.ok) (hw : d.writes + 5000 ≤ 1000000000) (tail : Int) (ht : -9223372036854775808 ≤ tail ∧ tail ≤ 9223372036854775807) : Calls Try.prog 73 #[v, .int .i64 tail] w (RWipePost w (wipeR d tail)) := by
  obtain ⟨A0, c0, After0, Torn0, rfl⟩ := h.form
  have h' := h.heap
  have HR0 := Lib.hid h'
  have hb0 : ∀ o o', Below w.heap.size w ((w.alloc o).alloc o') := fun o o' => ((Below.refl _ _).alloc (Nat.le_refl _) o).alloc (by simp) o'
  have HB0 := Lib.hid hb0
  have hrd := fun W (hW : Below w.heap.size w W) => rdirty_any (h'.below hW) hok tail ht
  have hbx : ∀ o, RBox ((w.alloc (.cells #[.slice A0 d.n c0, .int .i64 After0, .int .i64 Torn0, .bool d.dead, .int .i64 (d.writes : Int)] 55)).alloc o) w.heap.size (.agg #[.slice A0 d.n c0, .int .i64 After0, .int .i64 Torn0, .bool d.dead, .int .i64 (d.writes : Int)]) := fun o => ⟨_, _, _, _, _, rfl, by rw [Below.heap_alloc _ _ _ (by simp)]; exact heap_alloc_new w _⟩
  have hx1 := heap_alloc_new (w.alloc (.cells #[.slice A0 d.n c0, .int .i64 After0, .int .i64 Torn0, .bool d.dead, .int .i64 (d.writes : Int)] 55)) (.cells #[.slice none 0 0, .int .i64 0, .int .i64 0, .bool false, .int .i64 0] 55 (0, 0))
  rw [World.size_alloc] at hx1
  have hx2 : RBox ((w.alloc (.cells #[.slice A0 d.n c0, .int .i64 After0, .int .i64 Torn0, .bool d.dead, .int .i64 (d.writes : Int)] 55)).alloc (.cells #[.slice none 0 0, .int .i64 0, .int .i64 0, .bool false, .int .i64 0] 55)) (w.heap.size + 1) (.agg #[.slice none 0 0, .int .i64 0, .int .i64 0, .bool false, .int .i64 0]) := ⟨_, _, _, _, _, rfl, hx1⟩
  have hn2 := hok.n2
  have HBX := Lib.hid hbx
  have HX1 := Lib.hid hx2
  unfold wipeR
  by_cases h0 : rightE d tail = 0
  · obtain ⟨tl, rfl⟩ : ∃ tl : Nat, tail = (tl : Int) := by
      unfold rightE at h0
      split at h0
      · cases h0
      · exact ⟨tail.toNat, by omega⟩
    have htn : tl ≤ d.n := by
      unfold rightE at h0
      split at h0
      · cases h0
      · omega
    rw [if_pos h0, Int.toNat_natCast]
    rw [h0] at hrd
    rw [if_pos rfl, Int.toNat_natCast] at hrd
    obtain ⟨m, rs, hm0, hr0, hrn, hmn, hmle, hstep⟩ := wipe_plan d.L d.n tl htn
    clear h0
    generalize dirtyL d.L d.n tl = l at *
    generalize hR : (if (wipeW d l).2 = 0 then ((wipeW d l).1, (l.length : Int), 0) else ((wipeW d l).1, 0, (wipeW d l).2)) = R
    have HR := Lib.hid hR
    have HOK := Lib.hid hok
    have HRD := Lib.hid hrd
    have HST := Lib.hid hstep
    have HRN := Lib.hid hrn
    have HMN := Lib.hid hmn
    have HML := Lib.hid hmle
    have HR00 := Lib.hid hr0
    have HM00 := Lib.hid hm0
    have hcv := fun (k : Nat) => conv_bytn (page d.L k) (Nat.le_trans (List.length_take_le _ _) (by decide))
    have HCV := Lib.hid hcv
    have HB1 := Lib.hid (HB0.out (.cells #[.slice A0 d.n c0, .int .i64 After0, .int .i64 Torn0, .bool d.dead, .int .i64 (d.writes : Int)] 55) (.cells #[.slice none 0 0, .int .i64 0, .int .i64 0, .bool false, .int .i64 0] 55))
    have HBX1 := Lib.hid (HBX.out (.cells #[.slice none 0 0, .int .i64 0, .int .i64 0, .bool false, .int .i64 0] 55))
    have HRV1 := Lib.hid (HR0.out.below HB1.out).heap
    clear h hok hrd hb0 hbx hx1 hx2 h' hR hstep hrn hmn hmle hcv hr0 hm0 HB0 HBX HR0
    obtain ⟨i0, hi0, hz0, hs0, hbb0⟩ := info_parts Try.byteInfo
    have hmk : ∀ w, (Instr.makeSlice 23 (.int .i64 64) (.int .i64 64)).run Try.prog w = .ok (.slice (some ⟨w.heap.size, 0, none⟩) 64 64) (w.alloc (.cells (z64.map bV).toArray 5)) := fun w => by
      have := run_make (P := Try.prog) w 23 5 i0 (.int .u8 0) Try.underlying23 hi0 hz0 .i64 .i64 64 64 (by omega) (Int.le_refl _) (by rw [hbb0]; decide) (by omega)
      rw [this, hs0, ← made_z64]; rfl
    have hzz := fun w => own_lit w z64 (by decide)
    have hcz := fun (w : World) (v : Value) (h : Byt w w.heap.size v z64) => h.strA
    generalize (z64.map bV).toArray = ZZ at *
    generalize hzs : bsA z64 = zs at *
    have HZS := Lib.hid hzs
    have HZZ := Lib.hid hzz
    have HCZ := Lib.hid hcz
    clear hi0 hz0 hs0 hbb0 hzz hcz hzs
    generalize hn0 : d.n = n at *
    have HN0 := Lib.hid hn0
    clear hn0
    go_enter Try.func73, Try.ntmps73
    have hrd := HRD.out _ HB1.out
    go_wp2_with fail
    refine hrd.mono ?_
    rintro e w1 ⟨rfl, hb1⟩
    have HB2 := Lib.hid (HB1.out.trans (hb1.mono HB1.out.size))
    have HY1 := Lib.hid (HBX1.out.below (hb1.mono (Nat.le_refl _)))
    have HY2 := Lib.hid (HX1.out.below hb1)
    have HRV2 := Lib.hid (HRV1.out.below hb1).heap
    clear hb1 hrd HB1 HBX1 HX1 HRV1 HRD
    go_wp2
    go_loopg [8, 9, 10] (n - tl) (fun gk x8 x9 x10 wr => ∃ (i : Nat) (dk : Dv) (v : Value), gk = n - i ∧ tl ≤ i ∧ i ≤ n ∧ x9 = .int .i64 (m i : Int) ∧ x10 = .int .i64 (i : Int) ∧ wipeW dk (rs i) = wipeW d l ∧ (∀ j, i ≤ j → page dk.L j = page d.L j) ∧ dk.n = n ∧ dk.ok ∧ dk.writes ≤ d.writes + i ∧
      RBox wr w.heap.size v ∧ Rv wr wr.heap.size v dk ∧ RBox wr (w.heap.size + 1) (.agg #[.slice none 0 0, .int .i64 0, .int .i64 0, .bool false, .int .i64 0]) ∧ Below w.heap.size w wr)
    case atStart => exact ⟨tl, d, _, rfl, Nat.le_refl _, htn, by rw [HM00.out]; rfl, rfl, by rw [HR00.out], fun _ _ => rfl, HN0.out, HOK.out, Nat.le_add_right _ _, HY1.out, HRV2.out, HY2.out, HB2.out⟩
    case round =>
      obtain ⟨i, dk, v, hgk, hti, hi, rfl, rfl, hwk, hpg, hdn, hdok, hdw, hbx, hrv, hbx4, hbel⟩ := hrel
      obtain ⟨A, c, After, Torn, hv, hs, hf, htn'⟩ := id hrv
      rw [hdn] at hv hs
      subst hv
      have HG := Lib.hid hgk
      have HWK := Lib.hid hwk
      have HPG := Lib.hid hpg
      have HDOK := Lib.hid hdok
      have HBX := Lib.hid hbx
      have HRV := Lib.hid hrv
      have HBX4 := Lib.hid hbx4
      have HBE := Lib.hid hbel
      have hwr := hbel.size
      obtain ⟨x0, x1, x2, x3, x4, f0, f1, f2, f3, f4⟩ := hbx.cells
      clear hgk hwk hpg hdok hbx hrv hbx4 HY1 HY2 HRV2 HB2
      by_cases h : i < n
      · obtain ⟨ad, c', hv', hc1, hc2, hadb, hcell⟩ := hs.1.at_ i (by rw [pagesS_len]; exact h)
        rw [pagesS_len] at hv' hc1
        cases hv'
        have hg : (pagesS dk.L n)[i]'(by rw [pagesS_len]; exact h) = bsA (page d.L i) := by simp only [pagesS, List.getElem_map, List.getElem_range]; rw [HPG.out i (Nat.le_refl _)]
        rw [hg] at hcell
        have hcj : wr.cell? (ad.add i) = some (.string (bsA (page d.L i))) := hcell
        unfold maxLen at hc2
        obtain ⟨C5, CW5, hr5, hq5⟩ := HCV.out i
        have hbl := rblank_any (hq5 wr).1.1
        have hb5 := (hq5 wr).2
        have hst := HST.out i h hti
        have HST1 := Lib.hid hst
        have i1 : (0 : Int) ≤ (i : Int) := by omega
        have i2 : (i : Int) < (n : Int) := by omega
        have i3 : IntKind.i64.wrap ((i : Int) + 1) = (i : Int) + 1 := by rw [IntKind.wrap_i64]; omega
        have hmi := HML.out i
        have i4 : IntKind.i64.wrap ((m i : Int) + 1) = (m i : Int) + 1 := by rw [IntKind.wrap_i64]; omega
        have hwt := HDOK.out.wr
        generalize page d.L i = pi at *
        generalize blankB pi = bl at *
        generalize hdd : dk.dead = dd at *
        generalize hwk : ((dk.writes : Nat) : Int) = wk at *
        have HDD := Lib.hid hdd
        have HWKK := Lib.hid hwk
        clear hst hs hf hg hcell hdd hwk hq5 hbel
        go_wp2_with fail
        refine hbl.mono ?_
        rintro e w8 ⟨rfl, hb8⟩
        have hb58 : Below wr.heap.size wr w8 := hb5.trans (hb8.mono hb5.size)
        have HBX8 := Lib.hid (HBX.out.below hb58)
        have HRV8 := Lib.hid (HRV.out.below hb58).heap
        have HBX48 := Lib.hid (HBX4.out.below hb58)
        have HBE8 := Lib.hid (HBE.out.trans (hb58.mono hwr))
        clear hbl hb8 hb5 hcj x0 x1 x2 x3 x4 f0 f1 f2 f3 f4 hb58
        cases bl with
        | true =>
          obtain ⟨he1, he2⟩ := HST1.out.1 rfl
          go_wp2
          go_roundg (n - (i + 1))
          case measure => have := HG.out; omega
          case rel => exact ⟨i + 1, dk, _, rfl, by omega, by omega, by rw [he1], by simp, by rw [← he2]; exact HWK.out, fun j hj => HPG.out j (by omega), hdn, HDOK.out, by omega, HBX8.out, HRV8.out, HBX48.out, HBE8.out⟩
        | false =>
          obtain ⟨he1, he2⟩ := HST1.out.2 rfl
          have hwk := HWK.out
          rw [he2, wipeW] at hwk
          have hwr := fun (W : World) (hW : Below w8.heap.size w8 W) => rwrite_any (m := z64) (HRV8.out.below hW) HDOK.out (by omega) (i : Int)
          have hok1 := write_okk HDOK.out (by omega) (i : Int) z64
          have hww := write_writes dk (i : Int) z64
          have hn1 := write_n dk (i : Int) z64
          have hpo := fun j hj => write_other HDOK.out (i : Int) z64 j hj
          rw [HZS.out] at hwr
          generalize dk.write (i : Int) z64 = q at *
          obtain ⟨d1, r⟩ := q
          simp only at hwr hok1 hww hn1 hpo hwk
          unfold RPost at hwr
          have HWR := Lib.hid hwr
          have HOK1 := Lib.hid hok1
          have HPO := Lib.hid hpo
          have HWK1 := Lib.hid hwk
          have HE1 := Lib.hid he1
          clear hwr hok1 hpo hwk he1 he2
          go_wp2_with fail
          -- region 9
          refine wp_region_headN 6 4 (by kernel_rfl) [isS (.agg #[.slice (some ad) n c, .int .i64 After, .int .i64 Torn, .bool dd, .int .i64 wk]), isS (.int .i64 (i : Int)), bytS z64, isS (.string zs), rvS d1 r, rvS d1 r] (by kernel_rfl) (by kernel_rfl) (by kernel_rfl) (by decide) rfl (fun q hq => ?_) (fun a w5 hc hs => ?_)
          · match q, hq with
            | 0, _ =>
              intro a W hc hd
              have z2 := hc.same 2 (by kernel_rfl)
              simp only [List.getElem?_toArray, List.getElem?_cons_succ, List.getElem?_cons_zero, Option.getD_some] at z2
              obtain ⟨y0, y1, y2, y3, y4, _⟩ := (HBX8.out.below ((Below.refl w8.heap.size w8).drew.trans hc.below)).cells
              refine obl_val rfl (wanted_none rfl) ?_ rfl
              go_simp
            | 1, _ =>
              intro a W hc hd
              have z10 := hc.same 10 (by kernel_rfl)
              simp only [List.getElem?_toArray, List.getElem?_cons_succ, List.getElem?_cons_zero, Option.getD_some] at z10
              refine obl_val rfl (wanted_none rfl) ?_ rfl
              go_simp
            | 2, _ =>
              intro a W hc hd
              refine obl_grow rfl (wanted_none rfl) (v := .slice (some ⟨W.heap.size, 0, none⟩) 64 64) (w' := W.alloc (.cells ZZ 5)) ?_ (HZZ.out W).byt ((Below.refl W.heap.size W).alloc (Nat.le_refl _) _)
              go_simp
            | 3, _ =>
              intro a W hc hd
              have s2 : (bytS z64).f (a.tmps[39]?.getD undef) W := hd 2 (by decide) (by kernel_rfl)
              have e3 := HCZ.out W _ (show Byt W W.heap.size _ z64 from s2)
              refine obl_val rfl (wanted_none rfl) ?_ rfl
              go_simp
            | 4, _ =>
              intro a W hc hd
              have s0 : a.tmps[37]?.getD undef = (.agg #[.slice (some ad) n c, .int .i64 After, .int .i64 Torn, .bool dd, .int .i64 wk]) := hd 0 (by decide) (by kernel_rfl)
              have s1 : a.tmps[38]?.getD undef = (.int .i64 (i : Int)) := hd 1 (by decide) (by kernel_rfl)
              have s3 : a.tmps[40]?.getD undef = (.string zs) := hd 3 (by decide) (by kernel_rfl)
              refine obl_call rfl (wanted_none rfl) (by go_simp) (HWR.out W ((Below.refl w8.heap.size w8).drew.trans hc.below)) ?_
              rintro e w9 ⟨v9, rfl, hv9, hb9⟩
              exact ⟨_, rfl, ⟨v9, rfl, hv9⟩, hb9⟩
            | 5, _ =>
              intro a W hc hd
              have s4 : (rvS d1 r).f (a.tmps[41]?.getD undef) W := hd 4 (by decide) (by kernel_rfl)
              obtain ⟨v4, e4, hv4⟩ := (show ∃ v, a.tmps[41]?.getD undef = .tuple #[v, .int .i64 r] ∧ Rv W W.heap.size v d1 from s4)
              refine obl_val rfl (wanted_none rfl) (v := .tuple #[v4, .int .i64 r]) ?_ ⟨v4, rfl, hv4⟩
              go_simp
            | n + 6, h => exact absurd h (by omega)
          · have h36 := hs 5 36 (by decide) (by kernel_rfl)
            have hfr := grow_frameN hc [(37, (.agg #[.slice (some ad) n c, .int .i64 After, .int .i64 Torn, .bool dd, .int .i64 wk])), (38, (.int .i64 (i : Int))), (39, a.tmps[39]?.getD undef), (40, (.string zs)), (41, a.tmps[41]?.getD undef), (36, a.tmps[36]?.getD undef)] (by kernel_rfl) (fun p hp => by
                simp only [List.mem_cons, List.not_mem_nil, or_false] at hp
                rcases hp with rfl | rfl | rfl | rfl | rfl | rfl
                · exact hs 0 37 (by decide) (by kernel_rfl)
                · exact hs 1 38 (by decide) (by kernel_rfl)
                · rfl
                · exact hs 3 40 (by decide) (by kernel_rfl)
                · rfl
                · rfl
                )
            generalize a.tmps[39]?.getD undef = z39 at hfr
            generalize a.tmps[41]?.getD undef = z41 at hfr
            generalize a.tmps[36]?.getD undef = z36 at hfr h36
            simp only [List.range, List.range.loop, List.size_toArray, List.length_cons, List.length_nil, List.map_cons, List.map_nil, List.lookup_cons, List.lookup_nil, Nat.reduceAdd, Nat.reduceBEq, Option.getD_some, Option.getD_none, List.getElem?_toArray, List.getElem?_cons_succ, List.getElem?_cons_zero] at hfr
            subst hfr
            obtain ⟨v9, rfl, hv9⟩ := h36
          -- end 9
            obtain ⟨A9, c9, After9, Torn9, hv, hs9, hf9, ht9⟩ := id hv9
            rw [hn1, hdn] at hv
            subst hv
            have HRV9 := Lib.hid hv9
            have hb9 : Below w8.heap.size w8 w5 := (Below.refl w8.heap.size w8).drew.trans hc.below
            have HBX9 := Lib.hid (HBX8.out.below hb9)
            have HBX49 := Lib.hid (HBX48.out.below hb9)
            have HBE9 := Lib.hid (HBE8.out.trans (hb9.mono HBE8.out.size))
            obtain ⟨x0, x1, x2, x3, x4, f0, f1, f2, f3, f4⟩ := HBX9.out.cells
            clear hs hc hb9 hs9 hf9 hv9
            refine wpAny_take (i := 6) (v := .agg #[.slice A9 n c9, .int .i64 After9, .int .i64 Torn9, .bool d1.dead, .int .i64 (d1.writes : Int)]) rfl (by kernel_rfl) (by kernel_rfl) (by kernel_rfl) (fun _ _ _ h => h) (.inl ⟨by rfl, fun w => by go_simp⟩) ?_
            change wpAny _ _ _ _ _ _ (Act.put _ (some 42) _) _
            refine wpAny_take (i := 7) (v := .int .i64 r) rfl (by kernel_rfl) (by kernel_rfl) (by kernel_rfl) (fun _ _ _ h => h) (.inl ⟨by rfl, fun w => by go_simp⟩) ?_
            change wpAny _ _ _ _ _ _ (Act.put _ (some 43) _) _
            refine wpAny_seq 8 2 (by kernel_rfl) (by kernel_rfl) ?_
            simp only [List.drop_succ_cons, List.drop_zero]
            have HZ9 := Lib.hid (wipe_ret (w := w) HRV9.out HBX9.out (by omega) HBE9.out)
            have hnz : w.heap.size + 1 ≠ w.heap.size := by omega
            have hw5 := HBE9.out.size
            by_cases hr : r = 0
            · subst hr
              have hwk := HWK1.out
              rw [if_pos rfl] at hwk
              have HWK2 := Lib.hid hwk
              clear hwk
              go_wp2
              go_roundg (n - (i + 1))
              case measure => have := HG.out; omega
              case rel =>
                obtain ⟨q1, q2, q3, q4⟩ := HZ9.out
                exact ⟨i + 1, d1, _, rfl, by omega, by omega, by rw [HE1.out]; simp, by simp, HWK2.out, fun j hj => (HPO.out j (by omega)).trans (HPG.out j (by omega)), hn1.trans hdn, HOK1.out, by omega, q1, q2, q4 _ _ hnz HBX49.out, q3⟩
            · have e1 : (r == 0) = false := by rw [beq_eq_false_iff_ne]; exact hr
              have e2 : (r != 0) = true := by simp [e1, bne]
              obtain ⟨q1, q2, q3, q4⟩ := HZ9.out
              have hx4 := q4 _ _ hnz HBX49.out
              obtain ⟨k1, k2, k3, _⟩ := wipe_ret (w := w) q2 hx4 (by omega) q3
              have K2 := Lib.hid k2
              have K3 := Lib.hid k3
              obtain ⟨z0, z1, z2, z3, z4, g0, g1, g2, g3, g4⟩ := HBX49.out.cells
              have hwk := HWK1.out
              rw [if_neg hr] at hwk
              have hR := HR.out
              rw [← hwk] at hR
              simp only at hR
              rw [if_neg hr] at hR
              subst hR
              clear hwk q1 q2 q3 q4 hx4 k1 k2 k3
              go_wp2
              exact bodyPost_ret (v := .tuple #[.agg #[.slice A9 n c9, .int .i64 After9, .int .i64 Torn9, .bool d1.dead, .int .i64 (d1.writes : Int)], .int .i64 0, .int .i64 r]) (by simp [results, Try.results73, go_sem, z0, z1, z2, z3, z4]) rfl ⟨_, rfl, K2.out, K3.out⟩
      · obtain rfl : i = n := by omega
        have hwk := HWK.out
        rw [HRN.out, wipeW] at hwk
        have hmn := HMN.out
        have hR := HR.out
        rw [← hwk] at hR
        simp only [if_true] at hR
        obtain ⟨z0, z1, z2, z3, z4, g0, g1, g2, g3, g4⟩ := HBX4.out.cells
        obtain ⟨q1, q2, q3, _⟩ := wipe_ret (w := w) HRV.out HBX4.out (by omega) HBE.out
        have Q2 := Lib.hid q2
        have Q3 := Lib.hid q3
        subst hR
        clear q1 q2 q3 hwk hs hf hbel
        go_wp2
        exact bodyPost_ret (v := .tuple #[.agg #[.slice A i c, .int .i64 After, .int .i64 Torn, .bool dk.dead, .int .i64 (dk.writes : Int)], .int .i64 (l.length : Int), .int .i64 0]) (by simp [results, Try.results73, go_sem, z0, z1, z2, z3, z4, hmn]) rfl ⟨_, rfl, Q2.out, Q3.out⟩
  · rw [if_neg h0]
    rw [if_neg h0] at hrd
    generalize rightE d tail = r at *
    have e1 : (r == 0) = false := by rw [beq_eq_false_iff_ne]; exact h0
    have e2 : (r != 0) = true := by simp [e1, bne]
    have HRD := Lib.hid hrd
    clear h hok hrd hb0 hbx hx1 hx2 h'
    generalize d.n = n at *
    generalize d.dead = dd at *
    generalize (d.writes : Int) = wr at *
    go_enter Try.func73, Try.ntmps73
    have hrd := HRD.out _ (HB0.out (.cells #[.slice A0 n c0, .int .i64 After0, .int .i64 Torn0, .bool dd, .int .i64 wr] 55) (.cells #[.slice none 0 0, .int .i64 0, .int .i64 0, .bool false, .int .i64 0] 55))
    go_wp2_with fail
    refine hrd.mono ?_
    rintro e w1 ⟨rfl, hb1⟩
    have hbw := (HB0.out _ _).trans (hb1.mono (HB0.out _ _).size)
    have y1 := (HBX.out (.cells #[.slice none 0 0, .int .i64 0, .int .i64 0, .bool false, .int .i64 0] 55)).below (hb1.mono (Nat.le_refl _))
    have y2 := HX1.out.below hb1
    have hr1 := (HR0.out.below hbw).heap
    obtain ⟨x0, x1, x2, x3, x4, f0, f1, f2, f3, f4⟩ := y1.cells
    obtain ⟨z0, z1, z2, z3, z4, g0, g1, g2, g3, g4⟩ := y2.cells
    obtain ⟨q1, q2, q3, _⟩ := wipe_ret (w := w) hr1 y2 (by omega) hbw
    have Q1 := Lib.hid q1
    have Q2 := Lib.hid q2
    have Q3 := Lib.hid q3
    clear q1 q2 q3 hr1 y1 y2 hbw hb1
    go_wp2
    exact bodyPost_ret (v := .tuple #[.agg #[.slice A0 n c0, .int .i64 After0, .int .i64 Torn0, .bool dd, .int .i64 wr], .int .i64 0, .int .i64 r]) (by simp [results, Try.results73, go_sem, z0, z1, z2, z3, z4]) rfl ⟨_, rfl, Q2.out, Q3.out⟩
end Go.Proofs.Ytmcjefdnkcpghaa
