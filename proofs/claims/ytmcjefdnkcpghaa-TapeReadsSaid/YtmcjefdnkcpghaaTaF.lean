/- THE WALK OF tape.Pages. -/
import Derived.Test.YtmcjefdnkcpghaaTaE
import Derived.Test.YtmcjefdnkcpghaaRne
import Derived.Test.YtmcjefdnkcpghaaSeO
import Derived.Deep.RegionHeld3
import Derived.Deep.RegionHeldLaw
namespace Go.Proofs.Ytmcjefdnkcpghaa
open Go.RowKit Go.Shelf
attribute [local go_sem] Oper.semAt_some
def isCellsAt (w : World) (b : Nat) : Prop := ∃ cs t fr, w.heap[b]? = some (.cells cs t fr)
theorem OwB.cells {D : Nat → Prop} {w : World} {base : Nat} {v : Value} {ls : List (List UInt8)} (h : OwB D w base v ls) : OwB (fun b => D b ∧ isCellsAt w b) w base v ls := by
  obtain ⟨ts, h1, h2, h3, h4⟩ := h
  refine ⟨ts, h1, fun g hg => ⟨h2 g hg, ?_⟩, h3, fun j t l a b => ⟨(h4 j t l a b).1, fun ad n c e h0 => ?_⟩⟩
  · obtain ⟨cs, fr, hh⟩ := h1.kind g hg
    exact ⟨cs, _, fr, hh⟩
  · obtain ⟨q1, cs, t', fr, q2, q3⟩ := (h4 j t l a b).2 ad n c e h0
    exact ⟨⟨q1, cs, t', fr, q2⟩, cs, t', fr, q2, q3⟩
theorem OwB.from_ {D : Nat → Prop} {A C : World} {row : Option Nat} {base : Nat} {v : Value} {ls : List (List UInt8)} (h : OwB D A base v ls) (hg : A.grownBy C row) (hr : ∀ r, row = some r → ∃ o : Obj, A.heap[r]? = some o ∧ o.isCells = false) : OwB D C base v ls := by
  refine (h.cells.kept (S := fun b => row ≠ some b) ((Kept.refl _ A).grown hg (fun k hk _ hS => hS hk)) (fun b hb e => ?_)).mono fun b hb => hb.1
  obtain ⟨o, ho, hc⟩ := hr b e
  obtain ⟨cs, t, fr, hh⟩ := hb.2
  rw [hh] at ho
  cases ho; cases hc
/-- the boxes of Pages, between two rounds -/
def PgI (w : World) (b6 b7 Bp : Nat) (hd : Array Value) (seq : Nat) (l : List UInt8) (pre : List Value) (W : World) : Prop :=
  ∃ v, W.heap[b7]? = some (.cells #[v] 35 (0, 0)) ∧ W.heap[b6]? = some (.cells hd 77 (0, 0)) ∧ OwB (fun b => b ≠ Bp) W w.heap.size v (firstL seq l.length (sumL l) :: (cutsL l).take pre.length) ∧ Below w.heap.size w W
theorem PgI.from_ {w : World} {b6 b7 Bp B : Nat} {hd : Array Value} {seq : Nat} {l : List UInt8} (hB : w.heap.size ≤ B) : OwnFrom B (PgI w b6 b7 Bp hd seq l) := by
  intro pre A C row hs hg hr
  obtain ⟨v, h1, h2, h3, h4⟩ := hs
  refine ⟨v, ?_, ?_, h3.from_ hg (fun r e => (hr r e).2), ?_⟩
  · exact ownFrom_block (β := Unit) (fun _ => #[v]) 35 () A C row h1 hg hr
  · exact ownFrom_block (β := Unit) (fun _ => hd) 77 () A C row h2 hg hr
  · exact ownFrom_below (n₀ := w.heap.size) (w₀ := w) (Nat.le_refl _) hB () A C row h4 hg hr
theorem PgI.kept {w A C : World} {b6 b7 Bp : Nat} {hd : Array Value} {seq : Nat} {l : List UInt8} {pre : List Value} (h : PgI w b6 b7 Bp hd seq l pre A) (k : Kept (fun b => b ≠ Bp) A C) (h6 : b6 ≠ Bp) (h7 : b7 ≠ Bp) (hB : w.heap.size ≤ Bp) : PgI w b6 b7 Bp hd seq l pre C := by
  obtain ⟨v, h1, h2, h3, h4⟩ := h
  exact ⟨v, k.heap h1 h7, k.heap h2 h6, h3.kept k (fun _ h => h), h4.trans (k.toBelow (B := w.heap.size) h4.size (fun b hb e => by omega))⟩
theorem sec_bytn {D : Nat → Prop} {w : World} {g : Nat} {l : List UInt8} (hl : l.length = 64) (hg : w.heap[g]? = some (.cells (l.map bV).toArray 140 (0, 0))) (hd : D g) : BytN D w (.slice (some ⟨g, 0, none⟩) 64 64) l :=
  ⟨(show SecAt w 0 _ l from ⟨g, rfl, Nat.zero_le _, hl, hg⟩).byt, fun ad n c e _ => by cases e; exact ⟨hd, _, _, _, hg, by decide⟩⟩
theorem owB_one {D : Nat → Prop} {w : World} {A : Option Addr} {n c : Nat} {l : List UInt8} (h : BytN D w (.slice A n c) l) (hd : D w.heap.size) : OwB D (w.alloc (.cells #[.slice A n c] 23)) w.heap.size (.slice (some ⟨w.heap.size, 0, none⟩) 1 1) [l] := by
  have h1 := ow_lit triK w [(A, n, c)] (by simp [maxLen])
  refine ⟨[(A, n, c)], h1, fun g hg => ?_, rfl, fun j t m a b => ?_⟩
  · simp [Value.ownBlock] at hg; subst hg; exact hd
  · have hj : j = 0 := by have := (List.getElem?_eq_some_iff.1 a).1; simp at this; omega
    subst hj
    simp at a b
    subst a b
    exact h.below ((Below.refl w.heap.size w).alloc (Nat.le_refl _) _)
theorem argC_from (Bp : Nat) (l : List UInt8) (B : Nat) (pre : List Value) (x : Value) : OwnFrom B (fun (_ : Unit) W => argC Bp l pre x W) := fun s A C row hs hg hr => by
  obtain ⟨m, g, h1, h2, h3, h4, h5⟩ := hs
  exact ⟨m, g, h1, h2, h3, h4, ownFrom_block (β := Unit) (fun _ => (m.map bV).toArray) 140 () A C row h5 hg hr⟩
theorem keepK {D : Nat → Prop} {W w' : World} {b base : Nat} {vo : Value} {ls : List (List UInt8)} {cs : Array Value} {t : TypeId} (ht : t ≠ 23) (h1 : W.heap[b]? = some (.cells cs t (0, 0))) (h3 : OwB D W base vo ls) (hg : W.grownBy w' vo.ownBlock) : w'.heap[b]? = some (.cells cs t (0, 0)) := by
  obtain ⟨ts, o1, _, _⟩ := h3
  refine (hg.block b (lt_of_block h1) (fun e => ?_)).trans h1
  obtain ⟨cs, fr, hh⟩ := o1.kind b e.symm
  exact kind_ne h1 hh ht rfl
theorem keep7 {D : Nat → Prop} {W w' : World} {b7 base : Nat} {vo : Value} {ls : List (List UInt8)} (h1 : W.heap[b7]? = some (.cells #[vo] 35 (0, 0))) (h3 : OwB D W base vo ls) (hg : W.grownBy w' vo.ownBlock) : w'.heap[b7]? = some (.cells #[vo] 35 (0, 0)) := by
  obtain ⟨ts, o1, _, _⟩ := h3
  refine (hg.block b7 (lt_of_block h1) (fun e => ?_)).trans h1
  obtain ⟨cs, fr, hh⟩ := o1.kind b7 e.symm
  exact kind_ne h1 hh (by decide) rfl
theorem PgI.step {w W w' : World} {b6 b7 Bp B : Nat} {hd : Array Value} {seq : Nat} {l m : List UInt8} {pre : List Value} {x vo v' : Value} (h1 : W.heap[b7]? = some (.cells #[vo] 35 (0, 0))) (h2 : W.heap[b6]? = some (.cells hd 77 (0, 0)))
    (h3 : OwB (fun b => b ≠ Bp) W w.heap.size vo (firstL seq l.length (sumL l) :: (cutsL l).take pre.length)) (h4 : Below w.heap.size w W) (hm : (cutsL l)[pre.length]? = some m) (h67 : b6 ≠ b7) (h7 : b7 ≠ Bp) (hw7 : w.heap.size ≤ b7)
    (ho : OwB (fun b => b ≠ Bp) w' w.heap.size v' (firstL seq l.length (sumL l) :: (cutsL l).take pre.length ++ [m])) (hg : W.grownBy w' vo.ownBlock) :
    KeepsFrom B W (w'.setCell ⟨b7, 0, none⟩ v') ∧ Kept (fun b => b < w.heap.size ∨ b = Bp) W (w'.setCell ⟨b7, 0, none⟩ v') ∧ PgI w b6 b7 Bp hd seq l (pre ++ [x]) (w'.setCell ⟨b7, 0, none⟩ v') := by
  obtain ⟨ts, o1, o2, o3⟩ := id h3
  have hrow : ∀ g, vo.ownBlock = some g → ∃ cs fr, W.heap[g]? = some (.cells cs 23 fr) := o1.kind
  have hlt := fun g hg => o1.lt g hg
  have hk7 : some b7 ≠ vo.ownBlock := fun e => by
    obtain ⟨cs, fr, hh⟩ := hrow b7 e.symm
    exact kind_ne h1 hh (by decide) rfl
  have hk6 : some b6 ≠ vo.ownBlock := fun e => by
    obtain ⟨cs, fr, hh⟩ := hrow b6 e.symm
    exact kind_ne h2 hh (by decide) rfl
  have h1' := (hg.block b7 (lt_of_block h1) hk7).trans h1
  have h2' := (hg.block b6 (lt_of_block h2) hk6).trans h2
  have hoth : ∀ b, b ≠ b7 → (w'.setCell ⟨b7, 0, none⟩ v').heap[b]? = w'.heap[b]? := fun b hb => Below.heap_setCell _ _ _ _ (fun e => hb e)
  refine ⟨⟨Nat.le_trans hg.size (by simp [World.setCell]), fun b o hb hh hc => ?_⟩, ?_, v', ?_, ?_, ?_, ?_⟩
  · have n7 : b ≠ b7 := fun e => by subst e; rw [h1] at hh; cases hh; cases hc
    have nr : some b ≠ vo.ownBlock := fun e => by
      obtain ⟨cs, fr, h⟩ := hrow b e.symm
      rw [h] at hh; cases hh; cases hc
    rw [hoth b n7]
    exact (hg.block b (lt_of_block hh) nr).trans hh
  · refine ((Kept.refl _ W).grown hg (fun k hk _ hS => ?_)).setCell _ _ (fun _ hS => ?_)
    · rcases hS with hS | hS
      · have := (hlt k hk).1; omega
      · exact o2 k hk hS
    · have hS' : b7 < w.heap.size ∨ b7 = Bp := hS
      rcases hS' with hS' | hS'
      · omega
      · exact h7 hS'
  · simpa using Lib.heap_setCell_same (i := 0) h1' v'
  · rw [hoth b6 h67]; exact h2'
  · have e : (cutsL l).take (pre ++ [x]).length = (cutsL l).take pre.length ++ [m] := by
      rw [List.length_append, List.length_singleton, List.take_add_one, hm]; rfl
    rw [e, ← List.cons_append]
    refine (show OwB (fun b => b ≠ Bp ∧ b ≠ b7) w' w.heap.size v' _ from ?_).kept (S := fun b => b ≠ b7) ((Kept.refl _ w').setCell _ _ (fun _ h => h rfl)) (fun b hb => hb.2) |>.mono fun b hb => hb.1
    obtain ⟨ts', p1, p2, p3, p4⟩ := ho.cells
    refine ⟨ts', p1, fun g hg => ⟨(p2 g hg).1, fun e => ?_⟩, p3, fun j t q a b => ⟨(p4 j t q a b).1, fun ad n c e0 h0 => ?_⟩⟩
    · obtain ⟨cs, fr, hh⟩ := p1.kind g hg
      subst e
      exact kind_ne h1' hh (by decide) rfl
    · obtain ⟨q1, cs, t', fr, q2, q3⟩ := (p4 j t q a b).2 ad n c e0 h0
      refine ⟨⟨q1.1, fun e => ?_⟩, cs, t', fr, q2, q3⟩
      rw [e] at q2
      exact kind_ne h1' q2 (Ne.symm q3.2) rfl
  · exact (h4.grown hg h4.size (fun k hk => (hlt k hk).1)).setCell (by exact hw7) _
def pagesR (seq : Int) (l : List UInt8) : List (List UInt8) × Int := if rightB seq l.length then (pagesL seq.toNat l, 0) else ([], 2)
def PagesPost (w : World) (seq : Int) (l : List UInt8) (e : Ending) (w' : World) : Prop := ∃ v, e = .returned (.tuple #[v, .int .i64 (pagesR seq l).2]) ∧ OwB (fun _ => True) w' w.heap.size v (pagesR seq l).1 ∧ Below w.heap.size w w'
set_option maxRecDepth 100000 in
set_option maxHeartbeats 4000000 in
theorem pages_any {w : World} (seq : Int) (v : Value) (l : List UInt8) (B : Nat) (hv : Byt w B v l) (hl : l.length ≤ 131072) : Calls Try.prog 50 #[.int .i64 seq, v] w (PagesPost w seq l) := by
  have hsum := sum_any v l w B hv
  have hs0 := on0_lt l
  obtain ⟨A, c, rfl, hc, hm, _⟩ := id hv
  unfold maxLen at hm
  have HV := Lib.hid hv
  clear hv
  unfold PagesPost pagesR
  cases hb : rightB seq l.length with
  | false =>
    have hri := right_any seq l.length (sumL l)
    rw [hb] at hri
    unfold headV at hri
    clear hb
    go_enter Try.func50, Try.ntmps50
    go_wp2_with (first
      | (go_at_call 25; (with_reducible refine hsum.mono ?_); rintro e w1 ⟨rfl, hb1⟩)
      | (go_at_call 95; refine (hri _).mono ?_; rintro e w2 ⟨rfl, hb2⟩))
    go_ret2
    refine ⟨_, rfl, OwB.nil_ _ _ _, (hb1.alloc hb1.size _).trans (hb2.mono (by have := hb1.size; simp; omega))⟩
  | true =>
    obtain ⟨q1, q2, q3, q4⟩ := rightB_yes hb
    obtain ⟨sq, rfl⟩ : ∃ k : Nat, seq = (k : Int) := ⟨seq.toNat, by omega⟩
    have hri := right_any sq l.length (sumL l)
    rw [hb] at hri
    have hfi := first_any sq l.length (sumL l) (by omega) (by omega) hs0
    have hla := fun w => last_any sq (sumL l) (by omega) hs0 (l.length : Int) w
    unfold headV at hri hfi hla
    change Calls _ _ _ _ (fun e w' => e = .returned (.int .u32 (sumL l : Int)) ∧ _) at hsum
    simp only [if_true]
    rw [Int.toNat_natCast]
    generalize hsm : sumL l = sm at *
    have HLA := Lib.hid hla
    have HSM := Lib.hid hsm
    clear hb hla hs0 hsm
    refine (callsIn_wide (n := 3)).1 ?_
    refine callsIn_of_wp_marks Try.func50 rfl trivial ?_ rfl
    simp only [Try.ntmps50, List.size_toArray, List.length_cons, List.length_nil, Nat.reduceAdd, Nat.reduceSub, Array.replicate_succ, Array.replicate_zero, List.push_toArray, List.append_toArray, List.nil_append, List.cons_append]
    refine wpIn_wide.2 ?_
    go_wp2_with (first
      | (go_at_call 25; (with_reducible refine hsum.mono ?_); rintro e w1 ⟨rfl, hb1⟩
         have hx1 := heap_alloc_new w1 (.cells #[.int .i64 (sq : Int), .int .i64 (l.length : Int), .int .u32 (sm : Int)] 77 (0, 0)))
      | (go_at_call 95; refine (hri _).mono ?_; rintro e w2 ⟨rfl, hb2⟩
         have hx2 := (hb2.block _ (by simp)).trans hx1
         have z0 := cells_of hx2 0 _ rfl
         have z1 := cells_of hx2 1 _ rfl
         have z2 := cells_of hx2 2 _ rfl)
      | (go_at_call 96; refine (hfi _).mono ?_; rintro e w3 ⟨v3, rfl, ⟨g3, rfl, hg3, hgl3, hgh3⟩, hb3⟩
         have hx3 := (hb3.block _ (lt_of_block hx2)).trans hx2)
      | (go_at_call 97; refine (cuts_any _ _ _ _).mono ?_; rintro e w4 ⟨rfl, rfl⟩))
    have hs1 := hb1.size
    have hs2 := hb2.size
    have hs3 := hb3.size
    simp only [World.size_alloc] at hs2
    have hb03 : Below w.heap.size w w3 := (hb1.alloc hs1 _).trans ((hb2.mono (by simp; omega)).trans (hb3.mono (by omega)))
    obtain ⟨W4, hW4⟩ : ∃ W4, W4 = ((w3.alloc (.cells #[.slice (some ⟨g3, 0, none⟩) 64 64] 23)).alloc (.cells #[.slice (some ⟨w3.heap.size, 0, none⟩) 1 1] 35)).alloc (.cells #[.slice A l.length c] 23) := ⟨_, rfl⟩
    rw [← hW4]
    have hsz4 : W4.heap.size = w3.heap.size + 3 := by rw [hW4]; simp
    have hb34 : Below w3.heap.size w3 W4 := by rw [hW4]; exact (((Below.refl _ w3).alloc (Nat.le_refl _) _).alloc (by simp) _).alloc (by simp <;> omega) _
    have hb04 := hb03.trans (hb34.mono hb03.size)
    have hg3l := lt_of_block hgh3
    have hBp4 : W4.heap[w3.heap.size + 1 + 1]? = some (.cells #[.slice A l.length c] 23 (0, 0)) := by
      have := heap_alloc_new ((w3.alloc (.cells #[.slice (some ⟨g3, 0, none⟩) 64 64] 23)).alloc (.cells #[.slice (some ⟨w3.heap.size, 0, none⟩) 1 1] 35)) (.cells #[.slice A l.length c] 23 (0, 0))
      rw [hW4]; simpa using this
    have hI4 : PgI w w1.heap.size (w3.heap.size + 1) (w3.heap.size + 1 + 1) #[.int .i64 (sq : Int), .int .i64 (l.length : Int), .int .u32 (sm : Int)] sq l [] W4 := by
      refine ⟨.slice (some ⟨w3.heap.size, 0, none⟩) 1 1, ?_, (hb34.block _ (lt_of_block hx3)).trans hx3, ?_, hb04⟩
      · rw [hW4, Below.heap_alloc _ _ _ (by simp)]
        have := heap_alloc_new (w3.alloc (.cells #[.slice (some ⟨g3, 0, none⟩) 64 64] 23)) (.cells #[.slice (some ⟨w3.heap.size, 0, none⟩) 1 1] 35 (0, 0))
        simpa using this
      · have hq := owB_one (D := fun b => b ≠ w3.heap.size + 1 + 1) (sec_bytn hgl3 hgh3 (by omega)) (by omega)
        rw [HSM.out, hW4]
        exact ((hq.below ((Below.refl _ _).alloc (Nat.le_refl _) _)).below ((Below.refl _ _).alloc (Nat.le_refl _) _)).more hb03.size
    have hv4 : Byt W4 w.heap.size (.slice A l.length c) l := HV.out.heap.below hb04
    have HHI := Lib.hid hI4
    have HV4 := Lib.hid hv4
    clear hI4 hv4 hx1 hx2 hx3 z0 z1 z2 hgh3 hri hfi hsum hW4
    generalize w1.heap.size = b6 at *
    refine (wpIn_wide (n := 3)).1 ?_
    refine wpIn_range rfl (by omega) (gf := 118) (lb := #[.pointer (some ⟨w3.heap.size + 1 + 1, 0, none⟩)]) rfl trivial (enters_of Try.func118 (by kernel_rfl) rfl)
      (cuts1_seq hBp4 HV4.out (by omega) (3 - 1) (by omega) (T := fun b => b < w.heap.size ∨ b = w3.heap.size + 1 + 1) (.inr rfl) (fun b hb => .inl hb))
      (fun b hb => by omega) (fun b hb => by omega) (Below.refl _ _) (fun _ => rfl)
      (PgI w b6 (w3.heap.size + 1) (w3.heap.size + 1 + 1) #[.int .i64 (sq : Int), .int .i64 (l.length : Int), .int .u32 (sm : Int)] sq l) (fun _ _ _ => False) (PgI.from_ (by omega)) (fun _ _ _ _ _ h _ _ => h)
      (fun _ A C h hk => h.kept hk (by omega) (by omega) (by omega)) (fun _ _ _ _ h _ => h) (fun pre x => argC_from _ _ _ pre x) HHI.out ?a1 ?assign ?body ?done ?stop
    case assign =>
      intro L x W K hK
      have HK := Lib.hid hK
      clear hK
      gi_wp2
      exact HK.out
    case stop =>
      rintro D cc pre W _ _ h _
      exact h.elim
    case body =>
      rintro L pre x W hL hrec ⟨vo, h1, h2, h3, h4⟩ ⟨m, g, hm1, rfl, hm3, hm4, hm5⟩
      have c0 := cells_of h1 0 _ rfl
      have f0 := free_of h1 0
      have H1 := Lib.hid h1
      have H2 := Lib.hid h2
      have H3 := Lib.hid h3
      have H5 := Lib.hid hm5
      clear h1 h2 h3 hm5
      have hN := sec_bytn (D := fun b => b ≠ w3.heap.size + 1 + 1) hm4 H5.out (by omega)
      have HN := Lib.hid hN
      have hlt7 := lt_of_block H1.out
      have hk : pre.length < (cutsL l).length := (List.getElem?_eq_some_iff.1 hm1).1
      have hk2 : (cutsL l).length ≤ 2049 := by rw [cutsL_len _ l (Nat.le_refl _)]; omega
      have hln : (firstL sq l.length (sumL l) :: (cutsL l).take pre.length).length + 1 ≤ 1000000 := by
        rw [List.length_cons, List.length_take]; omega
      have hwW := h4.size
      have hgW := lt_of_block H5.out
      have hDD : ∀ b, W.heap.size ≤ b → b ≠ w3.heap.size + 1 + 1 := fun b hb => by omega
      have HD := Lib.hid hDD
      clear hN hDD hsz4
      refine wpIn_block ?_
      refine wpIn_round_list ?hq (by kernel_rfl) ?_
      case hq =>
        rintro ⟨_, _, h⟩
        exact h
      go_wp2_with ((with_reducible show wpList _ _ _ (⟨some 27, _, _, _, _, _⟩ :: _) _ _); go_loud (refine wpList_append_one rfl (.tmp 24) (.tmp 26) rfl rfl H3.out (some ⟨g, 0, none⟩) 64 64 HN.out rfl hln hwW HD.out ?_); intro v' w' ho' hg' _; obtain ⟨A7, n7, c7, rfl, hn7⟩ := ho'.form; clear hn7; have h7' := keep7 H1.out H3.out hg'; have d0 := cells_of h7' 0 _ rfl; have df := free_of h7' 0; have HO' := Lib.hid ho'; clear h7' ho')
      exact PgI.step H1.out H2.out H3.out h4 hm1 (by omega) (by omega) (by omega) HO'.out hg'
    case done =>
      rintro DD ys W hD hys ⟨vo, h1, h2, h3, h4⟩ hK
      rw [hys, List.take_length] at h3
      have c0 := cells_of h1 0 _ rfl
      have z0 := cells_of h2 0 _ rfl
      have z1 := cells_of h2 1 _ rfl
      have z2 := cells_of h2 2 _ rfl
      have hb6 := lt_of_block h2
      have H1 := Lib.hid h1
      have H2 := Lib.hid h2
      have H3 := Lib.hid (h3.mono (D' := fun _ => True) fun _ _ => trivial)
      clear h1 h2 h3
      have hln : (firstL sq l.length (sumL l) :: cutsL l).length + 1 ≤ 1000000 := by
        rw [List.length_cons, cutsL_len _ l (Nat.le_refl _)]; omega
      have hw4 := h4.size
      have hb7 := lt_of_block H1.out
      have HLN := Lib.hid hln
      have H4 := Lib.hid h4
      clear hln h4 hys
      go_wp2
      go_region_held3 (fun w' => w'.cell? ⟨b6, 0, none⟩ = some (.int .i64 (sq : Int)) ∧ w'.cell? ⟨b6, 1, none⟩ = some (.int .i64 (l.length : Int)) ∧ w'.cell? ⟨b6, 2, none⟩ = some (.int .u32 (sm : Int)) ∧ w'.cell? ⟨w3.heap.size + 1, 0, none⟩ = some vo) (go_keep)
        (first
          | (refine step_append_one (by rfl) (.tmp 28) (.tmp 31) (by rfl) (by rfl) HO5.out (some ⟨g5, 0, none⟩) 64 64 HN5.out (by rfl) HLN.out hw5 (fun _ _ => trivial) ?_
             intro v' w' ho' hg' _
             have HO' := Lib.hid ho'
             have k7 := keepK (by decide) H75.out HO5.out hg'
             have k6 := keepK (by decide) H65.out HO5.out hg'
             have c0' := cells_of k7 0 _ rfl
             have z0' := cells_of k6 0 _ rfl
             have z1' := cells_of k6 1 _ rfl
             have z2' := cells_of k6 2 _ rfl
             clear ho' k7 k6)
          | (go_at_call 98; (with_reducible refine (HLA.out _).mono ?_); rintro e w5 ⟨v5, rfl, ⟨g5, rfl, hg5, hgl5, hgh5⟩, hb5⟩
             have c0' : w5.cell? ⟨w3.heap.size + 1, 0, none⟩ = some vo := (hb5.cell (p := ⟨_, 0, none⟩) hb7).trans c0
             have z0' : w5.cell? ⟨b6, 0, none⟩ = some (.int .i64 (sq : Int)) := (hb5.cell (p := ⟨_, 0, none⟩) hb6).trans z0
             have z1' : w5.cell? ⟨b6, 1, none⟩ = some (.int .i64 (l.length : Int)) := (hb5.cell (p := ⟨_, 1, none⟩) hb6).trans z1
             have z2' : w5.cell? ⟨b6, 2, none⟩ = some (.int .u32 (sm : Int)) := (hb5.cell (p := ⟨_, 2, none⟩) hb6).trans z2
             have HO5 := Lib.hid ((H3.out.below (show Below W.heap.size W W.drew from (Below.refl _ _).drew)).below hb5)
             have HN5 := Lib.hid (sec_bytn (D := fun _ => True) hgl5 hgh5 trivial)
             have hw5 : w.heap.size ≤ w5.heap.size := Nat.le_trans hw4 hb5.size
             have HB5 := Lib.hid hb5
             have H75 := Lib.hid ((hb5.block _ hb7).trans H1.out)
             have H65 := Lib.hid ((hb5.block _ hb6).trans H2.out)
             clear hgh5 hb5)
          | fail)
      have hK5 := (HB5.out.block DD (lt_of_block hK)).trans hK
      have hK6 : w'.heap[DD]? = some (.deferred (some [])) := (hg'.block DD (lt_of_block hK5) (fun e => by
        obtain ⟨ts, o1, _, _⟩ := HO5.out
        obtain ⟨cs, fr, hh⟩ := o1.kind DD e.symm
        rw [hK5] at hh; cases hh)).trans hK5
      have hlt := HO5.out
      clear c0 c0' z0 z0' z1 z1' z2 z2'
      go_wp2
      refine ⟨by simp, .inl ⟨_, _, rfl, run_takeDeferred hK6, ?_⟩⟩
      refine ⟨.tuple #[v', .int .i64 0], by simp [results, Try.results50, go_sem], v', rfl, ?_, ?_⟩
      · have hh := HO'.out.from_ (grownBy_putObj' w' DD (.deferred none)) (fun r e => by cases e; exact ⟨_, hK6, rfl⟩)
        rw [HSM.out] at hh
        unfold pagesL
        rw [HSM.out]
        exact hh
      · have hbf : Below w.heap.size w w' := (H4.out.trans (((Below.refl W.heap.size W).drew.trans HB5.out).mono hw4)).grown hg' hw5 (fun k hk => by
          obtain ⟨ts, o1, _, _⟩ := HO5.out
          exact (o1.lt k hk).1)
        exact hbf.trans (belowK_b (w := w) (Nat.le_refl _) _ DD _ _ (by omega) hK6 rfl rfl)
end Go.Proofs.Ytmcjefdnkcpghaa
